


/- Volume: the reference's Check of a plan. -/
import Derived.Test.YtgmfifilgbbogaaG
import Derived.Test.YtgmfifilgbbogaaX
namespace Go.Proofs.Ytgmfifilgbbogaa
open Go.RowKit Go.Maps
set_option linter.unusedSimpArgs false
set_option linter.unusedVariables false
set_option maxRecDepth 100000

theorem stepE_ok {cs : List Ct} {k : Nat} (h : stepE cs k = 0) : okC (cs.getD k c0) ∧ ¬ (0 < k ∧ ¬ bef (cs.getD (k - 1) c0) (cs.getD k c0)) ∧ ¬ (cs.getD k c0).st < lastEn cs (cs.getD k c0).fr (cs.getD k c0).dt k := by
  unfold stepE at h
  by_cases h1 : okC (cs.getD k c0)
  · rw [if_neg (by simpa using h1)] at h
    by_cases h2 : 0 < k ∧ ¬ bef (cs.getD (k - 1) c0) (cs.getD k c0)
    · rw [if_pos h2] at h; cases h
    · rw [if_neg h2] at h
      by_cases h3 : (cs.getD k c0).st < lastEn cs (cs.getD k c0).fr (cs.getD k c0).dt k
      · rw [if_pos h3] at h; cases h
      · exact ⟨h1, h2, h3⟩
  · rw [if_pos h1] at h; cases h
theorem en_le_last {cs : List Ct} {a b : Int} : ∀ k, (∀ j, j < k → stepE cs j = 0) → ∀ m, m < k → (cs.getD m c0).fr = a → (cs.getD m c0).dt = b → (cs.getD m c0).en ≤ lastEn cs a b k
  | 0, _, m, hm, _, _ => by omega
  | k + 1, h, m, hm, ha, hb => by
    unfold lastEn
    by_cases he : (cs.getD k c0).fr = a ∧ (cs.getD k c0).dt = b
    · rw [if_pos he]
      by_cases hmk : m = k
      · rw [hmk]; exact Int.le_refl _
      · have h1 := en_le_last k (fun j hj => h j (by omega)) m (by omega) ha hb
        obtain ⟨hok, _, h3⟩ := stepE_ok (h k (by omega))
        rw [he.1, he.2] at h3
        have := hok.2.2.2.2.1
        omega
    · rw [if_neg he]
      have hmk : m ≠ k := fun e => he ⟨by rw [← e]; exact ha, by rw [← e]; exact hb⟩
      exact en_le_last k (fun j hj => h j (by omega)) m (by omega) ha hb
theorem last_ex (cs : List Ct) (a b : Int) : ∀ k, lastEn cs a b k = 0 ∨ ∃ m, m < k ∧ (cs.getD m c0).fr = a ∧ (cs.getD m c0).dt = b ∧ (cs.getD m c0).en = lastEn cs a b k
  | 0 => .inl rfl
  | k + 1 => by
    unfold lastEn
    by_cases he : (cs.getD k c0).fr = a ∧ (cs.getD k c0).dt = b
    · rw [if_pos he]; exact .inr ⟨k, by omega, he.1, he.2, rfl⟩
    · rw [if_neg he]
      rcases last_ex cs a b k with h | ⟨m, hm, h⟩
      · exact .inl h
      · exact .inr ⟨m, by omega, h⟩
/-- an earlier contact of the same pair that ends later than the k-th begins -/
def clashAt (cs : List Ct) (k m : Nat) : Prop := ((cs.getD m c0).fr = (cs.getD k c0).fr ∧ (cs.getD m c0).dt = (cs.getD k c0).dt) ∧ (cs.getD k c0).st < (cs.getD m c0).en
theorem clash_yes {cs : List Ct} {k m : Nat} (h : ∀ j, j < k → stepE cs j = 0) (hm : m < k) (hc : clashAt cs k m) (hok : okC (cs.getD k c0)) (h19 : ¬ (0 < k ∧ ¬ bef (cs.getD (k - 1) c0) (cs.getD k c0))) : stepE cs k = 12 := by
  have := en_le_last k h m hm hc.1.1 hc.1.2
  unfold stepE
  rw [if_neg (by simpa using hok), if_neg h19, if_pos (by have := hc.2; omega)]
theorem clash_no {cs : List Ct} {k : Nat} (hc : ∀ m, m < k → ¬ clashAt cs k m) (hok : okC (cs.getD k c0)) (h19 : ¬ (0 < k ∧ ¬ bef (cs.getD (k - 1) c0) (cs.getD k c0))) : stepE cs k = 0 := by
  unfold stepE
  rw [if_neg (by simpa using hok), if_neg h19, if_neg]
  intro hlt
  rcases last_ex cs (cs.getD k c0).fr (cs.getD k c0).dt k with h | ⟨m, hm, h1, h2, h3⟩
  · rw [h] at hlt
    have := hok.2.2.2.1
    omega
  · exact hc m hm ⟨⟨h1, h2⟩, by omega⟩

set_option maxRecDepth 100000 in
set_option maxHeartbeats 2000000 in
theorem rpchk_aux (cs : List Ct) (v : Value) (er ix : Int) (hpc : planChk cs = (er, ix)) (w : World) (h : RdC w v cs) :
    Calls Try.prog 62 #[v] w fun e w' => e = .returned (.tuple #[.int .i64 er, .int .i64 ix]) ∧ Below w.heap.size w w' := by
  obtain ⟨a0, n0, rfl⟩ := h.form
  obtain ⟨N, hN⟩ : ∃ N, cs.length = N := ⟨_, rfl⟩
  have HR : Hid (RdC w (.slice a0 N n0) cs) := by unfold Hid; rw [← hN]; exact h
  rw [hN]
  have HN := Lib.hid hN
  have HP := Lib.hid hpc
  clear h hN hpc
  by_cases hbig : 200 < N
  · have d1 : decide (200 < (N : Int)) = true := yb (by omega)
    obtain ⟨rfl, rfl⟩ : er = 5 ∧ ix = 0 := by
      have := HP.out
      unfold planChk at this
      rw [if_pos (by rw [HN.out]; exact hbig)] at this
      simp at this
      exact ⟨this.1.symm, this.2.symm⟩
    go_enter Try.func62, Try.ntmps62
    go_wp2
    go_ret2
    exact ⟨rfl, (by repeat (first | assumption | exact Below.refl _ _ | apply Below.al | apply below_drewN | apply Below.drew | refine Below.next ?_ (by assumption)))⟩
  have d1 : decide (200 < (N : Int)) = false := nb (by omega)
  go_enter Try.func62, Try.ntmps62
  go_wp2_with fail
  go_loopw [4] (fun i wr => ∃ k : Nat, k ≤ N ∧ i = .int .i64 k ∧ Below w.heap.size w wr ∧ Hid (∀ j, j < k → stepE cs j = 0)) (fun i _ => N - (intOf i).toNat)
  case atStart => exact ⟨0, Nat.zero_le _, rfl, (by repeat (first | assumption | exact Below.refl _ _ | apply Below.al | apply below_drewN | apply Below.drew | refine Below.next ?_ (by assumption))), fun j hj => by omega⟩
  case round =>
    obtain ⟨k, hk, rfl, hB, HZ⟩ := hrel
    by_cases hlt : k < N
    · have d2 : decide ((k : Int) < (N : Int)) = true := yb (by omega)
      obtain ⟨b, off, rfl, hcap, hca⟩ := HR.out.at HN.out k hlt
      obtain ⟨c, HC⟩ : ∃ c, Hid (cs.getD k c0 = c) := ⟨_, rfl⟩
      rw [HC.out] at hca
      have HCA := Lib.hid hca
      have hca := CA.keep hB hca
      have i1 : (0 : Int) ≤ (k : Int) := by omega
      have i2 : (k : Int) < (N : Int) := by omega
      have hwk : IntKind.i64.wrap (k : Int) = (k : Int) := IntWalk.i64_in _ (by omega)
      by_cases hok : okC c
      case neg =>
        obtain ⟨rfl, rfl⟩ : er = 2 ∧ ix = (k : Int) := by
          have h1 := HP.out
          rw [planChk_fail (er := 2) (by rw [HN.out]; omega) (by rw [HN.out]; exact hlt) HZ.out (by unfold stepE; rw [HC.out, if_pos hok]) (by decide)] at h1
          simp at h1
          exact ⟨h1.1.symm, h1.2.symm⟩
        go_wp2_with fail
        refine (rone_no c hok _).mono ?_
        rintro e w2 ⟨rfl, hb⟩
        go_wp2_with fail
        go_ret2
        exact ⟨rfl, (by repeat (first | assumption | exact Below.refl _ _ | apply Below.al | apply below_drewN | apply Below.drew | refine Below.next ?_ (by assumption)))⟩
      obtain ⟨c', HC'⟩ : ∃ c', Hid (cs.getD (k - 1) c0 = c') := ⟨_, rfl⟩
      obtain ⟨B19, H19⟩ : ∃ B : Bool, Hid (B = decide (0 < k ∧ ¬ bef c' c)) := ⟨_, rfl⟩
      go_wp2_with fail
      refine (rone_yes c hok _).mono ?_
      rintro e w2 ⟨rfl, hb⟩
      have hca := CA.keep hb hca
      have hB2 : Below w.heap.size w w2 := Below.next hB hb
      clear hb hB
      go_upto_region 8 with fail
      go_cut [36] (fun t wx => t = .bool B19 ∧ Below w2.heap.size w2 wx)
      case first =>
        by_cases hk0 : k = 0
        · subst hk0
          obtain rfl : B19 = false := by rw [H19.out]; simp
          go_quiet (fail)
          go_wp2
          go_meet
          exact ⟨rfl, (by repeat (first | assumption | exact Below.refl _ _ | apply Below.al | apply below_drewN | apply Below.drew | refine Below.next ?_ (by assumption)))⟩
        · obtain ⟨k', rfl⟩ : ∃ k', k = k' + 1 := ⟨k - 1, by omega⟩
          obtain ⟨b1, off1, hv1, _, hca1⟩ := HR.out.at HN.out k' (by omega)
          injection hv1 with hv1
          injection hv1 with hvb hvo
          subst hvb hvo
          rw [show k' = k' + 1 - 1 by omega, HC'.out] at hca1
          rw [show k' + 1 - 1 = k' by omega] at hca1
          have hca1 := CA.keep hB2 hca1
          have d0 : decide ((0 : Int) < (k' : Int) + 1) = true := yb (by omega)
          have d0' : decide ((0 : Int) < ((k' + 1 : Nat) : Int)) = true := yb (by omega)
          have j1 : (0 : Int) ≤ (k' : Int) := by omega
          have j2 : (k' : Int) < (N : Int) := by omega
          have j3 : (0 : Int) ≤ (k' : Int) + 1 := by omega
          have j4 : (k' : Int) + 1 < (N : Int) := by omega
          have hw : IntKind.i64.wrap (k' : Int) = (k' : Int) := IntWalk.i64_in _ (by omega)
          by_cases hz : bef c' c
          · obtain rfl : B19 = false := by rw [H19.out]; simp [hz]
            have dz : decide (bef c' c) = true := yb hz
            go_region_held3 (fun w' => (w'.cell? ⟨b, off + k' * 6, none⟩ = some (.int .i64 c'.fr) ∧ w'.cell? ⟨b, off + k' * 6 + 1, none⟩ = some (.int .i64 c'.dt) ∧ w'.cell? ⟨b, off + k' * 6 + 2, none⟩ = some (.int .i64 c'.st) ∧ w'.cell? ⟨b, off + k' * 6 + 3, none⟩ = some (.int .i64 c'.en) ∧ w'.cell? ⟨b, off + k' * 6 + 4, none⟩ = some (.int .i64 c'.rt) ∧ w'.cell? ⟨b, off + k' * 6 + 5, none⟩ = some (.int .i64 c'.dl)) ∧ w'.cell? ⟨b, off + (k' + 1) * 6, none⟩ = some (.int .i64 c.fr) ∧ w'.cell? ⟨b, off + (k' + 1) * 6 + 1, none⟩ = some (.int .i64 c.dt) ∧ w'.cell? ⟨b, off + (k' + 1) * 6 + 2, none⟩ = some (.int .i64 c.st) ∧ w'.cell? ⟨b, off + (k' + 1) * 6 + 3, none⟩ = some (.int .i64 c.en) ∧ w'.cell? ⟨b, off + (k' + 1) * 6 + 4, none⟩ = some (.int .i64 c.rt) ∧ w'.cell? ⟨b, off + (k' + 1) * 6 + 5, none⟩ = some (.int .i64 c.dl)) (first | with_reducible exact ⟨hca1, hca⟩ | with_reducible exact ⟨⟨cell_drew hca1.1, cell_drew hca1.2.1, cell_drew hca1.2.2.1, cell_drew hca1.2.2.2.1, cell_drew hca1.2.2.2.2.1, cell_drew hca1.2.2.2.2.2⟩, cell_drew hca.1, cell_drew hca.2.1, cell_drew hca.2.2.1, cell_drew hca.2.2.2.1, cell_drew hca.2.2.2.2.1, cell_drew hca.2.2.2.2.2⟩) (first | (go_at_call 73; refine (before_any c' c _).mono ?_; rw [dz]; rintro e w3 ⟨rfl, hb⟩; have hca1 := CA.keep hb hca1; have hca := CA.keep hb hca))
            all_goals (go_wp2_with fail; go_meet; exact ⟨rfl, (by repeat (first | assumption | exact Below.refl _ _ | apply Below.al | apply below_drewN | apply Below.drew | refine Below.next ?_ (by assumption)))⟩)
          · obtain rfl : B19 = true := by rw [H19.out]; simp [hz]
            have dz : decide (bef c' c) = false := nb hz
            go_region_held3 (fun w' => (w'.cell? ⟨b, off + k' * 6, none⟩ = some (.int .i64 c'.fr) ∧ w'.cell? ⟨b, off + k' * 6 + 1, none⟩ = some (.int .i64 c'.dt) ∧ w'.cell? ⟨b, off + k' * 6 + 2, none⟩ = some (.int .i64 c'.st) ∧ w'.cell? ⟨b, off + k' * 6 + 3, none⟩ = some (.int .i64 c'.en) ∧ w'.cell? ⟨b, off + k' * 6 + 4, none⟩ = some (.int .i64 c'.rt) ∧ w'.cell? ⟨b, off + k' * 6 + 5, none⟩ = some (.int .i64 c'.dl)) ∧ w'.cell? ⟨b, off + (k' + 1) * 6, none⟩ = some (.int .i64 c.fr) ∧ w'.cell? ⟨b, off + (k' + 1) * 6 + 1, none⟩ = some (.int .i64 c.dt) ∧ w'.cell? ⟨b, off + (k' + 1) * 6 + 2, none⟩ = some (.int .i64 c.st) ∧ w'.cell? ⟨b, off + (k' + 1) * 6 + 3, none⟩ = some (.int .i64 c.en) ∧ w'.cell? ⟨b, off + (k' + 1) * 6 + 4, none⟩ = some (.int .i64 c.rt) ∧ w'.cell? ⟨b, off + (k' + 1) * 6 + 5, none⟩ = some (.int .i64 c.dl)) (first | with_reducible exact ⟨hca1, hca⟩ | with_reducible exact ⟨⟨cell_drew hca1.1, cell_drew hca1.2.1, cell_drew hca1.2.2.1, cell_drew hca1.2.2.2.1, cell_drew hca1.2.2.2.2.1, cell_drew hca1.2.2.2.2.2⟩, cell_drew hca.1, cell_drew hca.2.1, cell_drew hca.2.2.1, cell_drew hca.2.2.2.1, cell_drew hca.2.2.2.2.1, cell_drew hca.2.2.2.2.2⟩) (first | (go_at_call 73; refine (before_any c' c _).mono ?_; rw [dz]; rintro e w3 ⟨rfl, hb⟩; have hca1 := CA.keep hb hca1; have hca := CA.keep hb hca))
            all_goals (go_wp2_with fail; go_meet; exact ⟨rfl, (by repeat (first | assumption | exact Below.refl _ _ | apply Below.al | apply below_drewN | apply Below.drew | refine Below.next ?_ (by assumption)))⟩)
      case rest =>
        obtain ⟨rfl, hbx⟩ := hcut
        rename World => wx
        have hBx : Below w.heap.size w wx := Below.next hB2 hbx
        clear hbx hB2 hca
        cases B19 with
        | true =>
          have h19 := of_decide_eq_true H19.out.symm
          obtain ⟨rfl, rfl⟩ : er = 19 ∧ ix = (k : Int) := by
            have h1 := HP.out
            rw [planChk_fail (er := 19) (by rw [HN.out]; omega) (by rw [HN.out]; exact hlt) HZ.out (by unfold stepE; rw [HC.out, HC'.out, if_neg (by simpa using hok), if_pos h19]) (by decide)] at h1
            simp at h1
            exact ⟨h1.1.symm, h1.2.symm⟩
          go_wp2
          go_ret2
          exact ⟨rfl, (by repeat (first | assumption | exact Below.refl _ _ | apply Below.al | apply below_drewN | apply Below.drew | refine Below.next ?_ (by assumption)))⟩
        | false =>
          have H20 := Lib.hid (of_decide_eq_false H19.out.symm)
          go_wp2_with fail
          go_loopw [5] (fun j wy => ∃ m : Nat, m ≤ k ∧ j = .int .i64 m ∧ Below w.heap.size w wy ∧ Hid (∀ l, l < m → ¬ clashAt cs k l)) (fun j _ => k - (intOf j).toNat)
          case atStart => exact ⟨0, Nat.zero_le _, rfl, hBx, fun l hl => by omega⟩
          case round =>
            clear hBx
            obtain ⟨m, hm, rfl, hBy, HM⟩ := hrel
            rename World => wy
            by_cases hmk : m < k
            · have d3 : decide ((m : Int) < (k : Int)) = true := yb (by omega)
              obtain ⟨b1, off1, hv1, _, hca1⟩ := HR.out.at HN.out m (by omega)
              injection hv1 with hv1
              injection hv1 with hvb hvo
              subst hvb hvo
              obtain ⟨c1, HC1⟩ : ∃ c1, Hid (cs.getD m c0 = c1) := ⟨_, rfl⟩
              rw [HC1.out] at hca1
              have hca1 := CA.keep hBy hca1
              have hca := CA.keep hBy HCA.out
              have j1 : (0 : Int) ≤ (m : Int) := by omega
              have j2 : (m : Int) < (N : Int) := by omega
              have hw : IntKind.i64.wrap (m : Int) = (m : Int) := IntWalk.i64_in _ (by omega)
              obtain ⟨BX, HX⟩ : ∃ B : Bool, Hid (B = decide ((c1.fr = c.fr ∧ c1.dt = c.dt) ∧ c.st < c1.en)) := ⟨_, rfl⟩
              have HCL : Hid (clashAt cs k m ↔ ((c1.fr = c.fr ∧ c1.dt = c.dt) ∧ c.st < c1.en)) := by unfold Hid clashAt; rw [HC.out, HC1.out]
              go_upto_region 13 with fail
              go_cut [64] (fun t wz => t = .bool BX ∧ Below wy.heap.size wy wz)
              case first =>
                by_cases hP : c1.fr = c.fr ∧ c1.dt = c.dt
                · have dz : decide (c1.fr = c.fr ∧ c1.dt = c.dt) = true := yb hP
                  have dq : decide (c.st < c1.en) = BX := by rw [HX.out]; simp [hP]
                  clear hP
                  refine wp_region_noPanic ?_
                  refine wp_region_held_drew (S := (fun w' => (w'.cell? ⟨b, off + m * 6, none⟩ = some (.int .i64 c1.fr) ∧ w'.cell? ⟨b, off + m * 6 + 1, none⟩ = some (.int .i64 c1.dt) ∧ w'.cell? ⟨b, off + m * 6 + 2, none⟩ = some (.int .i64 c1.st) ∧ w'.cell? ⟨b, off + m * 6 + 3, none⟩ = some (.int .i64 c1.en) ∧ w'.cell? ⟨b, off + m * 6 + 4, none⟩ = some (.int .i64 c1.rt) ∧ w'.cell? ⟨b, off + m * 6 + 5, none⟩ = some (.int .i64 c1.dl)) ∧ (w'.cell? ⟨b, off + k * 6, none⟩ = some (.int .i64 c.fr) ∧ w'.cell? ⟨b, off + k * 6 + 1, none⟩ = some (.int .i64 c.dt) ∧ w'.cell? ⟨b, off + k * 6 + 2, none⟩ = some (.int .i64 c.st) ∧ w'.cell? ⟨b, off + k * 6 + 3, none⟩ = some (.int .i64 c.en) ∧ w'.cell? ⟨b, off + k * 6 + 4, none⟩ = some (.int .i64 c.rt) ∧ w'.cell? ⟨b, off + k * 6 + 5, none⟩ = some (.int .i64 c.dl)))) (by kernel_rfl) ⟨⟨cell_drew hca1.1, cell_drew hca1.2.1, cell_drew hca1.2.2.1, cell_drew hca1.2.2.2.1, cell_drew hca1.2.2.2.2.1, cell_drew hca1.2.2.2.2.2⟩, ⟨cell_drew hca.1, cell_drew hca.2.1, cell_drew hca.2.2.1, cell_drew hca.2.2.2.1, cell_drew hca.2.2.2.2.1, cell_drew hca.2.2.2.2.2⟩⟩ (fun hHeld => ?_)
                  refine reg_tk (v := ?_) 0 43 rfl rfl (by kernel_rfl) (by kernel_rfl) (by kernel_rfl) (fun _ _ _ h => h) (by rfl) ?_ (by assumption) ?_
                  rotate_left
                  · (intro w hSw; (try dsimp only at hSw); go_simp; (try with_reducible rfl))
                  simp only [List.setIfInBounds_toArray, List.set_cons_zero, List.set_cons_succ]
                  refine reg_tk (v := ?_) 1 44 rfl rfl (by kernel_rfl) (by kernel_rfl) (by kernel_rfl) (fun _ _ _ h => h) (by rfl) ?_ (by assumption) ?_
                  rotate_left
                  · (intro w hSw; (try dsimp only at hSw); go_simp; (try with_reducible rfl))
                  simp only [List.setIfInBounds_toArray, List.set_cons_zero, List.set_cons_succ]
                  refine reg_tk (v := ?_) 2 45 rfl rfl (by kernel_rfl) (by kernel_rfl) (by kernel_rfl) (fun _ _ _ h => h) (by rfl) ?_ (by assumption) ?_
                  rotate_left
                  · (intro w hSw; (try dsimp only at hSw); go_simp; (try with_reducible rfl))
                  simp only [List.setIfInBounds_toArray, List.set_cons_zero, List.set_cons_succ]
                  refine reg_tk (v := ?_) 3 46 rfl rfl (by kernel_rfl) (by kernel_rfl) (by kernel_rfl) (fun _ _ _ h => h) (by rfl) ?_ (by assumption) ?_
                  rotate_left
                  · (intro w hSw; (try dsimp only at hSw); go_simp; (try with_reducible rfl))
                  simp only [List.setIfInBounds_toArray, List.set_cons_zero, List.set_cons_succ]
                  refine reg_tk (v := ?_) 4 47 rfl rfl (by kernel_rfl) (by kernel_rfl) (by kernel_rfl) (fun _ _ _ h => h) (by rfl) ?_ (by assumption) ?_
                  rotate_left
                  · (intro w hSw; (try dsimp only at hSw); go_simp; (try with_reducible rfl))
                  simp only [List.setIfInBounds_toArray, List.set_cons_zero, List.set_cons_succ]
                  refine reg_tk (v := ?_) 5 48 rfl rfl (by kernel_rfl) (by kernel_rfl) (by kernel_rfl) (fun _ _ _ h => h) (by rfl) ?_ (by assumption) ?_
                  rotate_left
                  · (intro w hSw; (try dsimp only at hSw); go_simp; (try with_reducible rfl))
                  simp only [List.setIfInBounds_toArray, List.set_cons_zero, List.set_cons_succ]
                  refine reg_tk (v := ?_) 6 49 rfl rfl (by kernel_rfl) (by kernel_rfl) (by kernel_rfl) (fun _ _ _ h => h) (by rfl) ?_ (by assumption) ?_
                  rotate_left
                  · (intro w hSw; (try dsimp only at hSw); go_simp; (try with_reducible rfl))
                  simp only [List.setIfInBounds_toArray, List.set_cons_zero, List.set_cons_succ]
                  refine reg_tk (v := ?_) 7 50 rfl rfl (by kernel_rfl) (by kernel_rfl) (by kernel_rfl) (fun _ _ _ h => h) (by rfl) ?_ (by assumption) ?_
                  rotate_left
                  · (intro w hSw; (try dsimp only at hSw); go_simp; (try with_reducible rfl))
                  simp only [List.setIfInBounds_toArray, List.set_cons_zero, List.set_cons_succ]
                  refine wpAnyH_ready (rs := [8]) (by kernel_rfl) (by simp) ?_
                  refine AllReadyH.cons rfl (fun K hK => ?_) AllReadyH.nil
                  go_simp
                  go_at_call 74
                  refine (pair_any c1 c _).mono ?_; rw [dz]; rintro e w3 ⟨rfl, hb⟩
                  go_wp2_with fail
                  have hca1 := CA.keep hb hca1; have hca := CA.keep hb hca
                  refine hK.out _ _ ⟨hca1, hca⟩ (fun hHeld => ?_)
                  clear hK K
                  try simp only [Act.put, List.setIfInBounds_toArray, List.set_cons_zero, List.set_cons_succ]
                  refine reg_tk (v := ?_) 9 52 rfl rfl (by kernel_rfl) (by kernel_rfl) (by kernel_rfl) (fun _ _ _ h => h) (by rfl) ?_ (by assumption) ?_
                  rotate_left
                  · (intro w hSw; (try dsimp only at hSw); go_simp; (try with_reducible rfl))
                  simp only [List.setIfInBounds_toArray, List.set_cons_zero, List.set_cons_succ]
                  refine reg_tk (v := ?_) 10 53 rfl rfl (by kernel_rfl) (by kernel_rfl) (by kernel_rfl) (fun _ _ _ h => h) (by rfl) ?_ (by assumption) ?_
                  rotate_left
                  · (intro w hSw; (try dsimp only at hSw); go_simp; (try with_reducible rfl))
                  simp only [List.setIfInBounds_toArray, List.set_cons_zero, List.set_cons_succ]
                  refine reg_tk (v := ?_) 11 54 rfl rfl (by kernel_rfl) (by kernel_rfl) (by kernel_rfl) (fun _ _ _ h => h) (by rfl) ?_ (by assumption) ?_
                  rotate_left
                  · (intro w hSw; (try dsimp only at hSw); go_simp; (try with_reducible rfl))
                  simp only [List.setIfInBounds_toArray, List.set_cons_zero, List.set_cons_succ]
                  refine reg_tk (v := ?_) 12 55 rfl rfl (by kernel_rfl) (by kernel_rfl) (by kernel_rfl) (fun _ _ _ h => h) (by rfl) ?_ (by assumption) ?_
                  rotate_left
                  · (intro w hSw; (try dsimp only at hSw); go_simp; (try with_reducible rfl))
                  simp only [List.setIfInBounds_toArray, List.set_cons_zero, List.set_cons_succ]
                  refine reg_tk (v := ?_) 13 56 rfl rfl (by kernel_rfl) (by kernel_rfl) (by kernel_rfl) (fun _ _ _ h => h) (by rfl) ?_ (by assumption) ?_
                  rotate_left
                  · (intro w hSw; (try dsimp only at hSw); go_simp; (try with_reducible rfl))
                  simp only [List.setIfInBounds_toArray, List.set_cons_zero, List.set_cons_succ]
                  refine reg_tk (v := ?_) 14 57 rfl rfl (by kernel_rfl) (by kernel_rfl) (by kernel_rfl) (fun _ _ _ h => h) (by rfl) ?_ (by assumption) ?_
                  rotate_left
                  · (intro w hSw; (try dsimp only at hSw); go_simp; (try with_reducible rfl))
                  simp only [List.setIfInBounds_toArray, List.set_cons_zero, List.set_cons_succ]
                  refine reg_tk (v := ?_) 15 58 rfl rfl (by kernel_rfl) (by kernel_rfl) (by kernel_rfl) (fun _ _ _ h => h) (by rfl) ?_ (by assumption) ?_
                  rotate_left
                  · (intro w hSw; (try dsimp only at hSw); go_simp; (try with_reducible rfl))
                  simp only [List.setIfInBounds_toArray, List.set_cons_zero, List.set_cons_succ]
                  refine reg_tk (v := ?_) 16 59 rfl rfl (by kernel_rfl) (by kernel_rfl) (by kernel_rfl) (fun _ _ _ h => h) (by rfl) ?_ (by assumption) ?_
                  rotate_left
                  · (intro w hSw; (try dsimp only at hSw); go_simp; (try with_reducible rfl))
                  simp only [List.setIfInBounds_toArray, List.set_cons_zero, List.set_cons_succ]
                  refine reg_tk (v := ?_) 17 60 rfl rfl (by kernel_rfl) (by kernel_rfl) (by kernel_rfl) (fun _ _ _ h => h) (by rfl) ?_ (by assumption) ?_
                  rotate_left
                  · (intro w hSw; (try dsimp only at hSw); go_simp; (try with_reducible rfl))
                  simp only [List.setIfInBounds_toArray, List.set_cons_zero, List.set_cons_succ]
                  refine reg_tk (v := ?_) 18 61 rfl rfl (by kernel_rfl) (by kernel_rfl) (by kernel_rfl) (fun _ _ _ h => h) (by rfl) ?_ (by assumption) ?_
                  rotate_left
                  · (intro w hSw; (try dsimp only at hSw); go_simp; (try with_reducible rfl))
                  simp only [List.setIfInBounds_toArray, List.set_cons_zero, List.set_cons_succ]
                  refine reg_tk (v := ?_) 19 62 rfl rfl (by kernel_rfl) (by kernel_rfl) (by kernel_rfl) (fun _ _ _ h => h) (by rfl) ?_ (by assumption) ?_
                  rotate_left
                  · (intro w hSw; (try dsimp only at hSw); go_simp; (try with_reducible rfl))
                  simp only [List.setIfInBounds_toArray, List.set_cons_zero, List.set_cons_succ]
                  refine reg_tk (v := ?_) 20 63 rfl rfl (by kernel_rfl) (by kernel_rfl) (by kernel_rfl) (fun _ _ _ h => h) (by rfl) ?_ (by assumption) ?_
                  rotate_left
                  · (intro w hSw; (try dsimp only at hSw); go_simp; (try with_reducible rfl))
                  simp only [List.setIfInBounds_toArray, List.set_cons_zero, List.set_cons_succ]
                  refine reg_tk (v := ?_) 21 64 rfl rfl (by kernel_rfl) (by kernel_rfl) (by kernel_rfl) (fun _ _ _ h => h) (by rfl) ?_ (by assumption) ?_
                  rotate_left
                  · (intro w hSw; (try dsimp only at hSw); go_simp; (try with_reducible rfl))
                  simp only [List.setIfInBounds_toArray, List.set_cons_zero, List.set_cons_succ]
                  refine wpAnyH_done (by kernel_rfl) ?_ _
                  refine NoPanic.normal ?_
                  all_goals (go_wp2_with fail; go_meet; exact ⟨rfl, (by repeat (first | assumption | exact Below.refl _ _ | apply Below.al | apply below_drewN | apply Below.drew | refine Below.next ?_ (by assumption)))⟩)
                · have dz : decide (c1.fr = c.fr ∧ c1.dt = c.dt) = false := nb hP
                  obtain rfl : BX = false := by rw [HX.out]; simp [hP]
                  clear hP
                  refine wp_region_noPanic ?_
                  refine wp_region_held_drew (S := (fun w' => (w'.cell? ⟨b, off + m * 6, none⟩ = some (.int .i64 c1.fr) ∧ w'.cell? ⟨b, off + m * 6 + 1, none⟩ = some (.int .i64 c1.dt) ∧ w'.cell? ⟨b, off + m * 6 + 2, none⟩ = some (.int .i64 c1.st) ∧ w'.cell? ⟨b, off + m * 6 + 3, none⟩ = some (.int .i64 c1.en) ∧ w'.cell? ⟨b, off + m * 6 + 4, none⟩ = some (.int .i64 c1.rt) ∧ w'.cell? ⟨b, off + m * 6 + 5, none⟩ = some (.int .i64 c1.dl)) ∧ (w'.cell? ⟨b, off + k * 6, none⟩ = some (.int .i64 c.fr) ∧ w'.cell? ⟨b, off + k * 6 + 1, none⟩ = some (.int .i64 c.dt) ∧ w'.cell? ⟨b, off + k * 6 + 2, none⟩ = some (.int .i64 c.st) ∧ w'.cell? ⟨b, off + k * 6 + 3, none⟩ = some (.int .i64 c.en) ∧ w'.cell? ⟨b, off + k * 6 + 4, none⟩ = some (.int .i64 c.rt) ∧ w'.cell? ⟨b, off + k * 6 + 5, none⟩ = some (.int .i64 c.dl)))) (by kernel_rfl) ⟨⟨cell_drew hca1.1, cell_drew hca1.2.1, cell_drew hca1.2.2.1, cell_drew hca1.2.2.2.1, cell_drew hca1.2.2.2.2.1, cell_drew hca1.2.2.2.2.2⟩, ⟨cell_drew hca.1, cell_drew hca.2.1, cell_drew hca.2.2.1, cell_drew hca.2.2.2.1, cell_drew hca.2.2.2.2.1, cell_drew hca.2.2.2.2.2⟩⟩ (fun hHeld => ?_)
                  refine reg_tk (v := ?_) 0 43 rfl rfl (by kernel_rfl) (by kernel_rfl) (by kernel_rfl) (fun _ _ _ h => h) (by rfl) ?_ (by assumption) ?_
                  rotate_left
                  · (intro w hSw; (try dsimp only at hSw); go_simp; (try with_reducible rfl))
                  simp only [List.setIfInBounds_toArray, List.set_cons_zero, List.set_cons_succ]
                  refine reg_tk (v := ?_) 1 44 rfl rfl (by kernel_rfl) (by kernel_rfl) (by kernel_rfl) (fun _ _ _ h => h) (by rfl) ?_ (by assumption) ?_
                  rotate_left
                  · (intro w hSw; (try dsimp only at hSw); go_simp; (try with_reducible rfl))
                  simp only [List.setIfInBounds_toArray, List.set_cons_zero, List.set_cons_succ]
                  refine reg_tk (v := ?_) 2 45 rfl rfl (by kernel_rfl) (by kernel_rfl) (by kernel_rfl) (fun _ _ _ h => h) (by rfl) ?_ (by assumption) ?_
                  rotate_left
                  · (intro w hSw; (try dsimp only at hSw); go_simp; (try with_reducible rfl))
                  simp only [List.setIfInBounds_toArray, List.set_cons_zero, List.set_cons_succ]
                  refine reg_tk (v := ?_) 3 46 rfl rfl (by kernel_rfl) (by kernel_rfl) (by kernel_rfl) (fun _ _ _ h => h) (by rfl) ?_ (by assumption) ?_
                  rotate_left
                  · (intro w hSw; (try dsimp only at hSw); go_simp; (try with_reducible rfl))
                  simp only [List.setIfInBounds_toArray, List.set_cons_zero, List.set_cons_succ]
                  refine reg_tk (v := ?_) 4 47 rfl rfl (by kernel_rfl) (by kernel_rfl) (by kernel_rfl) (fun _ _ _ h => h) (by rfl) ?_ (by assumption) ?_
                  rotate_left
                  · (intro w hSw; (try dsimp only at hSw); go_simp; (try with_reducible rfl))
                  simp only [List.setIfInBounds_toArray, List.set_cons_zero, List.set_cons_succ]
                  refine reg_tk (v := ?_) 5 48 rfl rfl (by kernel_rfl) (by kernel_rfl) (by kernel_rfl) (fun _ _ _ h => h) (by rfl) ?_ (by assumption) ?_
                  rotate_left
                  · (intro w hSw; (try dsimp only at hSw); go_simp; (try with_reducible rfl))
                  simp only [List.setIfInBounds_toArray, List.set_cons_zero, List.set_cons_succ]
                  refine reg_tk (v := ?_) 6 49 rfl rfl (by kernel_rfl) (by kernel_rfl) (by kernel_rfl) (fun _ _ _ h => h) (by rfl) ?_ (by assumption) ?_
                  rotate_left
                  · (intro w hSw; (try dsimp only at hSw); go_simp; (try with_reducible rfl))
                  simp only [List.setIfInBounds_toArray, List.set_cons_zero, List.set_cons_succ]
                  refine reg_tk (v := ?_) 7 50 rfl rfl (by kernel_rfl) (by kernel_rfl) (by kernel_rfl) (fun _ _ _ h => h) (by rfl) ?_ (by assumption) ?_
                  rotate_left
                  · (intro w hSw; (try dsimp only at hSw); go_simp; (try with_reducible rfl))
                  simp only [List.setIfInBounds_toArray, List.set_cons_zero, List.set_cons_succ]
                  refine wpAnyH_ready (rs := [8]) (by kernel_rfl) (by simp) ?_
                  refine AllReadyH.cons rfl (fun K hK => ?_) AllReadyH.nil
                  go_simp
                  go_at_call 74
                  refine (pair_any c1 c _).mono ?_; rw [dz]; rintro e w3 ⟨rfl, hb⟩
                  go_wp2_with fail
                  have hca1 := CA.keep hb hca1; have hca := CA.keep hb hca
                  refine hK.out _ _ ⟨hca1, hca⟩ (fun hHeld => ?_)
                  clear hK K
                  try simp only [Act.put, List.setIfInBounds_toArray, List.set_cons_zero, List.set_cons_succ]
                  refine reg_tk (v := ?_) 9 52 rfl rfl (by kernel_rfl) (by kernel_rfl) (by kernel_rfl) (fun _ _ _ h => h) (by rfl) ?_ (by assumption) ?_
                  rotate_left
                  · (intro w hSw; (try dsimp only at hSw); go_simp; (try with_reducible rfl))
                  simp only [List.setIfInBounds_toArray, List.set_cons_zero, List.set_cons_succ]
                  refine reg_nt 10 53 rfl rfl (by kernel_rfl) (by kernel_rfl) (by kernel_rfl) (fun _ _ _ h => h) (by rfl) (by assumption) ?_
                  simp only [List.setIfInBounds_toArray, List.set_cons_zero, List.set_cons_succ]
                  refine reg_nt 11 54 rfl rfl (by kernel_rfl) (by kernel_rfl) (by kernel_rfl) (fun _ _ _ h => h) (by rfl) (by assumption) ?_
                  simp only [List.setIfInBounds_toArray, List.set_cons_zero, List.set_cons_succ]
                  refine reg_nt 12 55 rfl rfl (by kernel_rfl) (by kernel_rfl) (by kernel_rfl) (fun _ _ _ h => h) (by rfl) (by assumption) ?_
                  simp only [List.setIfInBounds_toArray, List.set_cons_zero, List.set_cons_succ]
                  refine reg_nt 13 56 rfl rfl (by kernel_rfl) (by kernel_rfl) (by kernel_rfl) (fun _ _ _ h => h) (by rfl) (by assumption) ?_
                  simp only [List.setIfInBounds_toArray, List.set_cons_zero, List.set_cons_succ]
                  refine reg_nt 14 57 rfl rfl (by kernel_rfl) (by kernel_rfl) (by kernel_rfl) (fun _ _ _ h => h) (by rfl) (by assumption) ?_
                  simp only [List.setIfInBounds_toArray, List.set_cons_zero, List.set_cons_succ]
                  refine reg_nt 15 58 rfl rfl (by kernel_rfl) (by kernel_rfl) (by kernel_rfl) (fun _ _ _ h => h) (by rfl) (by assumption) ?_
                  simp only [List.setIfInBounds_toArray, List.set_cons_zero, List.set_cons_succ]
                  refine reg_nt 16 59 rfl rfl (by kernel_rfl) (by kernel_rfl) (by kernel_rfl) (fun _ _ _ h => h) (by rfl) (by assumption) ?_
                  simp only [List.setIfInBounds_toArray, List.set_cons_zero, List.set_cons_succ]
                  refine reg_nt 17 60 rfl rfl (by kernel_rfl) (by kernel_rfl) (by kernel_rfl) (fun _ _ _ h => h) (by rfl) (by assumption) ?_
                  simp only [List.setIfInBounds_toArray, List.set_cons_zero, List.set_cons_succ]
                  refine reg_nt 18 61 rfl rfl (by kernel_rfl) (by kernel_rfl) (by kernel_rfl) (fun _ _ _ h => h) (by rfl) (by assumption) ?_
                  simp only [List.setIfInBounds_toArray, List.set_cons_zero, List.set_cons_succ]
                  refine reg_nt 19 62 rfl rfl (by kernel_rfl) (by kernel_rfl) (by kernel_rfl) (fun _ _ _ h => h) (by rfl) (by assumption) ?_
                  simp only [List.setIfInBounds_toArray, List.set_cons_zero, List.set_cons_succ]
                  refine reg_nt 20 63 rfl rfl (by kernel_rfl) (by kernel_rfl) (by kernel_rfl) (fun _ _ _ h => h) (by rfl) (by assumption) ?_
                  simp only [List.setIfInBounds_toArray, List.set_cons_zero, List.set_cons_succ]
                  refine reg_tk (v := ?_) 21 64 rfl rfl (by kernel_rfl) (by kernel_rfl) (by kernel_rfl) (fun _ _ _ h => h) (by rfl) ?_ (by assumption) ?_
                  rotate_left
                  · (intro w hSw; (try dsimp only at hSw); go_simp; (try with_reducible rfl))
                  simp only [List.setIfInBounds_toArray, List.set_cons_zero, List.set_cons_succ]
                  refine wpAnyH_done (by kernel_rfl) ?_ _
                  refine NoPanic.normal ?_
                  all_goals (go_wp2_with fail; go_meet; exact ⟨rfl, (by repeat (first | assumption | exact Below.refl _ _ | apply Below.al | apply below_drewN | apply Below.drew | refine Below.next ?_ (by assumption)))⟩)
              case rest =>
                obtain ⟨rfl, hbz⟩ := hcut
                have hBz := Below.next hBy hbz
                clear hbz hBy hca hca1
                cases BX with
                | true =>
                  have hx := of_decide_eq_true HX.out.symm
                  obtain ⟨rfl, rfl⟩ : er = 12 ∧ ix = (k : Int) := by
                    have h1 := HP.out
                    rw [planChk_fail (er := 12) (by rw [HN.out]; omega) (by rw [HN.out]; exact hlt) HZ.out (clash_yes HZ.out hmk (HCL.out.2 hx) (by rw [HC.out]; exact hok) (by rw [HC.out, HC'.out]; exact H20.out)) (by decide)] at h1
                    simp at h1
                    exact ⟨h1.1.symm, h1.2.symm⟩
                  go_wp2
                  go_ret2
                  exact ⟨rfl, (by repeat (first | assumption | exact Below.refl _ _ | apply Below.al | apply below_drewN | apply Below.drew | refine Below.next ?_ (by assumption)))⟩
                | false =>
                  have hx := Lib.hid (of_decide_eq_false HX.out.symm)
                  go_wp2
                  go_roundw
                  case rel => exact ⟨m + 1, by omega, by go_num, hBz, fun l hl hcl => by
                    by_cases hlm : l = m
                    · rw [hlm] at hcl; exact hx.out (HCL.out.1 hcl)
                    · exact HM.out l (by omega) hcl⟩
                  case measure => simp [intOf]; omega
            · have hmk2 : m = k := by omega
              subst hmk2
              have d3 : decide ((m : Int) < (m : Int)) = false := nb (by omega)
              have HK := Lib.hid (clash_no HM.out (by rw [HC.out]; exact hok) (by rw [HC.out, HC'.out]; exact H20.out))
              go_wp2
              go_roundw
              case rel => exact ⟨m + 1, by omega, by go_num, hBy, fun j hj => by
                by_cases hjk : j = m
                · rw [hjk]; exact HK.out
                · exact HZ.out j (by omega)⟩
              case measure => simp [intOf]; omega
    · have hk16 : k = N := by omega
      subst hk16
      have d2 : decide ((k : Int) < (k : Int)) = false := nb (by omega)
      obtain ⟨rfl, rfl⟩ : er = 0 ∧ ix = 0 := by
        have h1 := HP.out
        rw [planChk_ok (by rw [HN.out]; omega) (by rw [HN.out]; exact HZ.out)] at h1
        simp at h1
        exact ⟨h1.1.symm, h1.2.symm⟩
      go_wp2
      go_ret2
      exact ⟨rfl, (by repeat (first | assumption | exact Below.refl _ _ | apply Below.al | apply below_drewN | apply Below.drew | refine Below.next ?_ (by assumption)))⟩
end Go.Proofs.Ytgmfifilgbbogaa
