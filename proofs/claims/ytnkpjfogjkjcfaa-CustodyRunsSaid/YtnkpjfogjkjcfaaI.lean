


/- Custody: the place of a tag by binary search; put. -/
import Derived.Test.YtnkpjfogjkjcfaaH
namespace Go.Proofs.Ytnkpjfogjkjcfaa
open Go.RowKit
set_option linter.unusedSimpArgs false
set_option linter.unusedVariables false
set_option maxRecDepth 100000

theorem insert_any (w : World) (base : Nat) (v : Value) (l : List Tg) (i : Nat) (t : Tg) (vb : Nat) (hi : i ≤ l.length) (hl : l.length ≤ 1000000) (hbase : base ≤ w.heap.size) (hown : OwG w base v l) (hb : BoxN w vb 80 #[.int .i64 t.nd, .int .i64 t.of]) (hvb : ∀ k, v.ownBlock = some k → k ≠ vb) :
    Calls Try.prog 86 #[v, .int .i64 (i : Int), .slice (some ⟨vb, 0, none⟩) 1 1] w (InsR w base v (l.take i ++ t :: l.drop i)) := by
  by_cases h : i = l.length
  · subst h
    rw [List.take_length, List.drop_length]
    exact insert_end w base v l t vb hl hbase hown hb
  · rcases hown.2 with ⟨_, h0⟩ | ⟨g, cap, cur, rfl, _, _, hnc, _⟩
    · omega
    · by_cases hr : l.length + 1 ≤ cap
      · exact insert_shift w base g cap l i t vb (by omega) hr hl hbase hown hb (fun e => hvb g rfl e.symm)
      · exact insert_grow w base g cap l i t vb (by omega) (by omega) hl hbase hown hb
set_option maxHeartbeats 2000000 in
theorem bsearch_any (w : World) (v : Value) (l : List Tg) (t : Tg) (hl : l.length ≤ 1000000) (ha : asc l) (h : RdG w v l) :
    Calls Try.prog 85 #[v, t.v, .func (.func 76) #[] #[]] w fun e w' => (∃ b, e = .returned (.tuple #[.int .i64 (plc l t : Int), .bool b])) ∧ Below w.heap.size w w' := by
  obtain ⟨a0, n0, rfl⟩ := h.form
  obtain ⟨N, hN⟩ : ∃ N, l.length = N := ⟨_, rfl⟩
  obtain ⟨p, hp⟩ : ∃ p, plc l t = p := ⟨_, rfl⟩
  rw [hN] at h hl ⊢
  rw [hp]
  have HN := Lib.hid hN
  have HP := Lib.hid hp
  have HA := Lib.hid ha
  obtain ⟨W, hW⟩ : ∃ W : World, W = w.alloc (.cells #[.int .i64 t.nd, .int .i64 t.of] 80) := ⟨_, rfl⟩
  have hB0 : Below w.heap.size w W := by rw [hW]; exact (by repeat (first | assumption | exact Below.refl _ _ | apply Below.al | apply below_drewN | apply Below.drew | refine Below.next ?_ (by assumption)))
  have bI : BoxN W w.heap.size 80 #[.int .i64 t.nd, .int .i64 t.of] := by rw [hW]; exact BoxN.new _ _ _
  have i0 : W.cell? ⟨w.heap.size, 0, none⟩ = some (.int .i64 t.nd) := bI.cell 0
  have i1 : W.cell? ⟨w.heap.size, 1, none⟩ = some (.int .i64 t.of) := bI.cell 1
  have HR := Lib.hid (h.keep hB0)
  clear bI h hN hp ha
  go_enter Try.func85, Try.ntmps85
  go_upto_region 1 with fail
  rw [← hW]
  clear hW
  go_wp2_with fail
  go_loopw [9, 10] (fun i j wr => ∃ a b : Nat, a ≤ b ∧ b ≤ N ∧ i = .int .i64 a ∧ j = .int .i64 b ∧ Below W.heap.size W wr ∧ (∀ k, k < a → ltG (gt l k) t) ∧ (∀ k, b ≤ k → k < N → ¬ ltG (gt l k) t)) (fun i j _ => (intOf j).toNat - (intOf i).toNat)
  case atStart => exact ⟨0, N, Nat.zero_le _, Nat.le_refl _, rfl, rfl, Below.refl _ _, fun k hk => by omega, fun k hk hk2 => by omega⟩
  case round =>
    obtain ⟨a, b, hab, hbN, rfl, rfl, hB, hlo, hhi⟩ := hrel
    have HLO := Lib.hid hlo
    have HHI := Lib.hid hhi
    clear hlo hhi
    by_cases hlt : a < b
    · have d1 : decide ((a : Int) < (b : Int)) = true := yb (by omega)
      obtain ⟨m, hm⟩ : ∃ m, (a + b) / 2 = m := ⟨_, rfl⟩
      have hm1 : a ≤ m := by omega
      have hm2 : m < b := by omega
      have hw1 : IntKind.i64.wrap ((a : Int) + (b : Int)) = (a : Int) + (b : Int) := IntWalk.i64_in _ (by omega)
      have hw2 : IntKind.u64.wrap ((a : Int) + (b : Int)) = (a : Int) + (b : Int) := IntWalk.u64_in _ (by omega)
      have hw3 : ((a : Int) + (b : Int)) / 2 = (m : Int) := by omega
      have hw4 : IntKind.u64.wrap (m : Int) = (m : Int) := IntWalk.u64_in _ (by omega)
      have hw5 : IntKind.i64.wrap (m : Int) = (m : Int) := IntWalk.i64_in _ (by omega)
      have hw6 : IntKind.i64.wrap ((m : Int) + 1) = (m : Int) + 1 := IntWalk.i64_in _ (by omega)
      obtain ⟨b1, o1, rfl, hc1, g0, g1⟩ := RdG.at (HR.out.keep hB) HN.out m (by omega)
      obtain ⟨y, HY⟩ : ∃ y, Hid (gt l m = y) := ⟨_, rfl⟩
      rw [HY.out] at g0 g1
      have n1 : (0 : Int) ≤ (m : Int) := by omega
      have n2 : (m : Int) < (N : Int) := by omega
      have j0 := cell_later hB i0
      have j1 := cell_later hB i1
      have HM := Lib.hid hm
      clear hm
      go_upto_region 5 with fail
      refine wp_region_sym (fun w' => Below wr.heap.size wr w') (by kernel_rfl) (by kernel_rfl) ((Below.refl _ wr).drew) ?_
      refine q_move 24 2 rfl (by first | exact Or.inl rfl | exact Or.inr rfl) rfl rfl ?_
      dsimp only [putT, List.toList_toArray, List.set_cons_zero, List.set_cons_succ]
      refine q_move 25 0 rfl (by first | exact Or.inl rfl | exact Or.inr rfl) rfl rfl ?_
      dsimp only [putT, List.toList_toArray, List.set_cons_zero, List.set_cons_succ]
      refine q_move 26 11 rfl (by first | exact Or.inl rfl | exact Or.inr rfl) rfl rfl ?_
      dsimp only [putT, List.toList_toArray, List.set_cons_zero, List.set_cons_succ]
      refine q_run2 27 25 26 (v := ?_) rfl rfl rfl rfl ?_ ?_
      rotate_left
      · (intro A hA hA2 wS hS; skip; go_simp; (try with_reducible rfl))
      dsimp only [putT, List.toList_toArray, List.set_cons_zero, List.set_cons_succ]
      refine q_run1 28 27 (v := ?_) rfl rfl rfl ?_ ?_
      rotate_left
      · (intro A hA wS hS; (have z0 := cell_later hS g0; have z1 := cell_later hS g1); go_simp; (try with_reducible rfl))
      dsimp only [putT, List.toList_toArray, List.set_cons_zero, List.set_cons_succ]
      refine q_run1 29 4 (v := ?_) rfl rfl rfl ?_ ?_
      rotate_left
      · (intro A hA wS hS; (have z0 := cell_later hS j0; have z1 := cell_later hS j1); go_simp; (try with_reducible rfl))
      dsimp only [putT, List.toList_toArray, List.set_cons_zero, List.set_cons_succ]
      refine q_call 30 76 (v := .int .i64 (cmpG y t)) (args := ?_) rfl rfl ?_ ?_ ?_
      rotate_left 1
      · (intro wS hS; go_simp; (try with_reducible rfl))
      · (intro wS hS; refine (compare_any y t _).mono ?_; (rintro e w2 ⟨rfl, hb2⟩; exact ⟨rfl, Below.next hS hb2⟩))
      dsimp only [putT, List.toList_toArray, List.set_cons_zero, List.set_cons_succ]
      refine q_run1 31 30 (v := ?_) rfl rfl rfl ?_ ?_
      rotate_left
      · (intro A hA wS hS; skip; go_simp; (try with_reducible rfl))
      dsimp only [putT, List.toList_toArray, List.set_cons_zero, List.set_cons_succ]
      refine wpQuiet_nil ?_
      intro wS hS
      have hB1 := Below.next hB hS
      by_cases hs : ltG y t
      · have hx : decide (cmpG y t < 0) = true := yb ((cmpG_lt y t).2 hs)
        rw [hx]
        have HS := Lib.hid hs
        clear hs hx j0 j1 g0 g1 hS
        go_wp2_with fail
        go_roundw
        case rel => exact ⟨m + 1, b, by omega, hbN, by go_num, rfl, hB1, fun k hk => by
          by_cases hkm : k = m
          · subst hkm; rw [HY.out]; exact HS.out
          · have h1 := asc_lt HA.out (show k < m by omega) (by rw [HN.out]; omega)
            rw [HY.out] at h1
            exact ltG_tr h1 HS.out, HHI.out⟩
        case measure => simp [intOf]; omega
      · have hx : decide (cmpG y t < 0) = false := nb (fun h => hs ((cmpG_lt y t).1 h))
        rw [hx]
        have HS := Lib.hid hs
        clear hs hx j0 j1 g0 g1 hS
        go_wp2_with fail
        go_roundw
        case rel => exact ⟨a, m, by omega, by omega, rfl, rfl, hB1, HLO.out, fun k hk hk2 => by
          by_cases hkm : k = m
          · subst hkm; rw [HY.out]; exact HS.out
          · intro hlt
            have h1 := asc_lt HA.out (show m < k by omega) (by rw [HN.out]; omega)
            rw [HY.out] at h1
            exact HS.out (ltG_tr h1 hlt)⟩
        case measure => simp [intOf]; omega
    · have d1 : decide ((a : Int) < (b : Int)) = false := nb (by omega)
      obtain rfl : a = p := by
        rw [← HP.out]
        exact plc_uniq HA.out (by rw [HN.out]; omega) HLO.out (fun hk => HHI.out a (by omega) (by rw [HN.out] at hk; exact hk))
      have j0 := cell_later hB i0
      have j1 := cell_later hB i1
      go_upto_region 8 with fail
      obtain ⟨x3, hx3⟩ : ∃ c, decide ((a : Int) < (N : Int)) = c := ⟨_, rfl⟩
      by_cases haN : a < N
      · obtain ⟨b1, o1, rfl, hc1, g0, g1⟩ := RdG.at (HR.out.keep hB) HN.out a haN
        obtain ⟨y, HY⟩ : ∃ y, Hid (gt l a = y) := ⟨_, rfl⟩
        rw [HY.out] at g0 g1
        have n1 : (0 : Int) ≤ (a : Int) := by omega
        have n2 : (a : Int) < (N : Int) := by omega
        have hwa : IntKind.i64.wrap (a : Int) = (a : Int) := IntWalk.i64_in _ (by omega)
        have d2 : decide ((a : Int) < (N : Int)) = true := yb (by omega)
        clear hx3
        obtain ⟨x12, hx12⟩ : ∃ c, (cmpG y t == 0) = c := ⟨_, rfl⟩
        refine wp_region_sym (fun w' => Below wr.heap.size wr w') (by kernel_rfl) (by kernel_rfl) ((Below.refl _ wr).drew) ?_
        refine q_move 35 9 rfl (by first | exact Or.inl rfl | exact Or.inr rfl) rfl rfl ?_
        dsimp only [putT, List.toList_toArray, List.set_cons_zero, List.set_cons_succ]
        refine q_move 36 9 rfl (by first | exact Or.inl rfl | exact Or.inr rfl) rfl rfl ?_
        dsimp only [putT, List.toList_toArray, List.set_cons_zero, List.set_cons_succ]
        refine q_move 37 8 rfl (by first | exact Or.inl rfl | exact Or.inr rfl) rfl rfl ?_
        dsimp only [putT, List.toList_toArray, List.set_cons_zero, List.set_cons_succ]
        refine q_run2 38 36 37 (v := ?_) rfl rfl rfl rfl ?_ ?_
        rotate_left
        · (intro A hA hA2 wS hS; skip; go_simp; (try with_reducible rfl))
        dsimp only [putT, List.toList_toArray, List.set_cons_zero, List.set_cons_succ]
        refine q_move 39 38 rfl (by first | exact Or.inl rfl | exact Or.inr rfl) rfl rfl ?_
        dsimp only [putT, List.toList_toArray, List.set_cons_zero, List.set_cons_succ]
        refine q_moveg 40 2 (g := true) rfl rfl (by exact (want_at rfl rfl rfl).trans (wb_t true)) (by first | exact Or.inr rfl | exact Or.inl rfl) ?_
        dsimp only [putT, List.toList_toArray, List.set_cons_zero, List.set_cons_succ]
        refine q_moveg 41 0 (g := true) rfl rfl (by exact (want_at rfl rfl rfl).trans (wb_t true)) (by first | exact Or.inr rfl | exact Or.inl rfl) ?_
        dsimp only [putT, List.toList_toArray, List.set_cons_zero, List.set_cons_succ]
        refine q_moveg 42 9 (g := true) rfl rfl (by exact (want_at rfl rfl rfl).trans (wb_t true)) (by first | exact Or.inr rfl | exact Or.inl rfl) ?_
        dsimp only [putT, List.toList_toArray, List.set_cons_zero, List.set_cons_succ]
        refine q_if2 43 41 42 (g := true) (v := ?_) rfl rfl rfl (by exact (want_at rfl rfl rfl).trans (wb_t true)) ?_ ?_
        rotate_left
        · (intro hg A hA hA2 wS hS; (try rw [hg, sel_true] at hA); (try rw [hg, sel_true] at hA2); (try simp only [Bool.and_eq_true, Bool.not_eq_true', Bool.or_eq_false_iff] at hg); skip; go_simp; (try with_reducible rfl))
        dsimp only [putT, List.toList_toArray, List.set_cons_zero, List.set_cons_succ]
        refine q_if1 44 43 (g := true) (v := ?_) rfl rfl (by exact (want_at rfl rfl rfl).trans (wb_t true)) ?_ ?_
        rotate_left
        · (intro hg A hA wS hS; (try rw [hg, sel_true] at hA); (try simp only [Bool.and_eq_true, Bool.not_eq_true', Bool.or_eq_false_iff] at hg); (have z0 := cell_later hS g0; have z1 := cell_later hS g1); go_simp; (try with_reducible rfl))
        dsimp only [putT, List.toList_toArray, List.set_cons_zero, List.set_cons_succ]
        refine q_if1 45 4 (g := true) (v := ?_) rfl rfl (by exact (want_at rfl rfl rfl).trans (wb_t true)) ?_ ?_
        rotate_left
        · (intro hg A hA wS hS; (try rw [hg, sel_true] at hA); (try simp only [Bool.and_eq_true, Bool.not_eq_true', Bool.or_eq_false_iff] at hg); (have z0 := cell_later hS j0; have z1 := cell_later hS j1); go_simp; (try with_reducible rfl))
        dsimp only [putT, List.toList_toArray, List.set_cons_zero, List.set_cons_succ]
        refine q_callif 46 76 (g := true) (v := .int .i64 (cmpG y t)) (args := ?_) rfl (by exact (want_at rfl rfl rfl).trans (wb_t true)) ?_ ?_ ?_
        rotate_left 1
        · (intro hg wS hS; (try simp only [hg, sel_true]); (try simp only [Bool.and_eq_true, Bool.not_eq_true', Bool.or_eq_false_iff] at hg); go_simp; (try with_reducible rfl))
        · (intro hg wS hS; (try simp only [Bool.and_eq_true, Bool.not_eq_true', Bool.or_eq_false_iff] at hg); refine (compare_any y t _).mono ?_; (rintro e w2 ⟨rfl, hb2⟩; exact ⟨rfl, Below.next hS hb2⟩))
        dsimp only [putT, List.toList_toArray, List.set_cons_zero, List.set_cons_succ]
        refine q_if1 47 46 (g := true) (v := ?_) rfl rfl (by exact (want_at rfl rfl rfl).trans (wb_t true)) ?_ ?_
        rotate_left
        · (intro hg A hA wS hS; (try rw [hg, sel_true] at hA); (try simp only [Bool.and_eq_true, Bool.not_eq_true', Bool.or_eq_false_iff] at hg); skip; go_simp; (try with_reducible rfl))
        dsimp only [putT, List.toList_toArray, List.set_cons_zero, List.set_cons_succ]
        refine q_pickA 48 39 47 (v := .bool (true && x12)) rfl rfl rfl rfl rfl (pk_and true x12) ?_
        dsimp only [putT, List.toList_toArray, List.set_cons_zero, List.set_cons_succ]
        refine q_move 6 35 rfl (by first | exact Or.inl rfl | exact Or.inr rfl) rfl rfl ?_
        dsimp only [putT, List.toList_toArray, List.set_cons_zero, List.set_cons_succ]
        refine q_move 7 48 rfl (by first | exact Or.inl rfl | exact Or.inr rfl) rfl rfl ?_
        dsimp only [putT, List.toList_toArray, List.set_cons_zero, List.set_cons_succ]
        refine wpQuiet_nil ?_
        intro wS hS
        have hB1 := Below.next hB0 (Below.next hB hS)
        go_wp2_with fail
        go_ret2
        exact ⟨⟨_, rfl⟩, hB1⟩
      · have d2 : decide ((a : Int) < (N : Int)) = false := nb (by omega)
        clear hx3
        go_wp2_with fail
        go_quiet (fail)
        go_wp2_with fail
        go_ret2
        exact ⟨⟨_, rfl⟩, Below.next hB0 (below_drewN hB _)⟩
/-- a tag put into its place, in the row of one's own -/
theorem put_any (w : World) (base : Nat) (v : Value) (l : List Tg) (t : Tg) (hl : l.length ≤ 1000000) (hbase : base ≤ w.heap.size) (ha : asc l) (hown : OwG w base v l) :
    Calls Try.prog 80 #[v, t.v] w (InsR w base v (insG l t)) := by
  obtain ⟨W, hW⟩ : ∃ W : World, W = w.alloc (.cells #[.int .i64 t.nd, .int .i64 t.of] 80) := ⟨_, rfl⟩
  have hB0 : Below w.heap.size w W := by rw [hW]; exact (by repeat (first | assumption | exact Below.refl _ _ | apply Below.al | apply below_drewN | apply Below.drew | refine Below.next ?_ (by assumption)))
  have bI : BoxN W w.heap.size 80 #[.int .i64 t.nd, .int .i64 t.of] := by rw [hW]; exact BoxN.new _ _ _
  have i0 : W.cell? ⟨w.heap.size, 0, none⟩ = some (.int .i64 t.nd) := bI.cell 0
  have i1 : W.cell? ⟨w.heap.size, 1, none⟩ = some (.int .i64 t.of) := bI.cell 1
  have hlt : ∀ k, v.ownBlock = some k → k < w.heap.size := fun k hk => (hown.lt k hk).2
  have hrd : RdG W v l := (RdL.of_owns (R := tgR) hown).keep hB0
  obtain ⟨a, c, hv⟩ := owns_form hown
  have HBS := Lib.hid (bsearch_any W v l t hl ha hrd)
  have hown1 : OwG W base v l := (Kx.of_below (X := fun _ => False) hB0).owns (fun _ _ h => h) hown
  have HIN : Hid (∀ w1 : World, Below W.heap.size W w1 → ∀ vb, BoxN w1 vb 80 #[.int .i64 t.nd, .int .i64 t.of] → W.heap.size ≤ vb → Calls Try.prog 86 #[v, .int .i64 (plc l t : Int), .slice (some ⟨vb, 0, none⟩) 1 1] w1 (InsR w1 base v (insG l t))) := Lib.hid (fun w1 hb vb hvb hsz =>
    insert_any w1 base v l (plc l t) t vb (plc_le l t) hl (by have := hB0.size; have := hb.size; omega) ((Kx.of_below (X := fun _ => False) hb).owns (fun _ _ h => h) hown1) hvb (fun k hk e => by have := hlt k hk; have := hB0.size; omega))
  obtain ⟨p, hp⟩ : ∃ p, plc l t = p := ⟨_, rfl⟩
  rw [hp] at HBS HIN
  have HV := Lib.hid hlt
  subst hv
  clear bI hrd hown hown1 hp ha hlt
  go_enter Try.func80, Try.ntmps80
  go_upto_region 1 with fail
  rw [← hW]
  clear hW
  go_wp2_with fail
  refine HBS.out.mono ?_
  rintro e w1 ⟨⟨bb, rfl⟩, hb1⟩
  have j0 := cell_later hb1 i0
  have j1 := cell_later hb1 i1
  have hB1 := Below.next hB0 hb1
  have HI2 := Lib.hid (HIN.out (w1.alloc (.cells #[.int .i64 t.nd, .int .i64 t.of] 80)) (Below.al hb1 _) w1.heap.size (BoxN.new _ _ _) hb1.size)
  clear i0 i1
  go_wp2_with fail
  refine HI2.out.mono ?_
  rintro e w2 ⟨a2, c2, rfl, h1, h2, h3⟩
  have HR : Hid (InsR w base (.slice a l.length c) (insG l t) (.returned (.slice a2 (insG l t).length c2)) w2) := Lib.hid ⟨a2, c2, rfl, h1, ((Kx.of_below (X := fun k => (Value.slice a l.length c).ownBlock = some k) (Below.al hB1 _))).trans h2 (fun k _ hk => hk), fun k hk => by
    rcases h3 k hk with h | h
    · exact .inl h
    · have := hB1.size
      have hs : (w1.alloc (.cells #[.int .i64 t.nd, .int .i64 t.of] 80)).heap.size = w1.heap.size + 1 := by simp
      exact .inr (by omega)⟩
  clear h1 h2 h3
  go_wp2_with fail
  go_ret
  exact HR.out
end Go.Proofs.Ytnkpjfogjkjcfaa
