


/- Custody: which copies and frames are valid: the program. -/
import Derived.Test.YtnkpjfogjkjcfaaC
import Derived.Test.YtnkpjfogjkjcfaaSY
namespace Go.Proofs.Ytnkpjfogjkjcfaa
open Go.RowKit
set_option linter.unusedSimpArgs false
set_option linter.unusedVariables false
set_option maxRecDepth 100000

/-- what lies where while a copy is looked at -/
def CK (w : World) (B p g o : Nat) (n ds : Int) (y : Cq) : Prop :=
  w.cell? ⟨B, 0, none⟩ = some (ptr p) ∧ w.cell? ⟨B + 1, 0, none⟩ = some (.int .i64 n) ∧ w.cell? ⟨B + 2, 0, none⟩ = some (.pointer (some ⟨g, o, none⟩)) ∧ w.cell? ⟨p, 0, none⟩ = some (.int .i64 ds) ∧ CA w g o y
theorem CK.keep {W w1 : World} {B p g o : Nat} {n ds : Int} {y : Cq} (hb : Below W.heap.size W w1) (h : CK W B p g o n ds y) : CK w1 B p g o n ds y :=
  ⟨cell_later hb h.1, cell_later hb h.2.1, cell_later hb h.2.2.1, cell_later hb h.2.2.2.1, h.2.2.2.2.keep hb⟩
def cpOK (X : Wd) (n m : Int) (y : Cq) (tks kps : List Tg) : Prop := (¬ (y.st < 0 ∨ m < y.st ∨ (n = X.ds ∧ y.st ≠ 0 ∧ y.st ≠ 4) ∨ y.nx < 0 ∨ 1099511627776 < y.nx)) ∧ (¬ (y.st ≠ 2 ∧ (y.tt ≠ 0 ∨ y.of ≠ 0))) ∧ (¬ (y.st = 2 ∧ (¬ isN X y.tt ∨ y.tt = n ∨ y.nx < 1 ∨ y.of ≠ y.nx - 1))) ∧
      (asc tks ∧ asc kps) ∧ tks.any (fun t => !decide (tagOK X t n)) = false ∧ kps.any (fun t => !decide (t ∈ tks)) = false
instance (X : Wd) (n m : Int) (y : Cq) (tks kps : List Tg) : Decidable (cpOK X n m y tks kps) := by unfold cpOK; infer_instance
set_option maxHeartbeats 4000000 in
theorem copyOK_any (w : World) (p T : Nat) (cv fv : Value) (q : List Cq) (X : Wd) (i : Nat) (hi : i < X.cs.length) (h : BW w p T cv fv q X) :
    Calls Try.prog 47 #[ptr p, .int .i64 ((i : Int) + 1)] w fun e w' => e = .returned (.bool (decide (copOK X ((i : Int) + 1) (gc X.cs i)))) ∧ Below w.heap.size w w' := by
  obtain ⟨n, hn⟩ : ∃ n : Int, (i : Int) + 1 = n := ⟨_, rfl⟩
  have hnN : isN X n := by unfold isN; omega
  obtain ⟨g, o0, c, rfl⟩ := h.pt.addr hnN
  obtain ⟨r, hr⟩ : ∃ r, decide (copOK X n (gc X.cs i)) = r := ⟨_, rfl⟩
  obtain ⟨W, hW⟩ : ∃ W : World, W = ((w.alloc (.cells #[ptr p] 67)).alloc (.cells #[.int .i64 n] 3)).alloc (.cells #[.pointer (some ⟨g, o0 + i * 6, none⟩)] 70) := ⟨_, rfl⟩
  have hB0 : Below w.heap.size w W := by rw [hW]; exact (by repeat (first | assumption | exact Below.refl _ _ | apply Below.al | apply below_drewN | apply Below.drew | refine Below.next ?_ (by assumption)))
  have hh := h.keep hB0
  have hat := at_any ((w.alloc (.cells #[ptr p] 67)).alloc (.cells #[.int .i64 n] 3)) p T g o0 c fv q X i hi (h.keep (by repeat (first | assumption | exact Below.refl _ _ | apply Below.al | apply below_drewN | apply Below.drew | refine Below.next ?_ (by assumption))))
  rw [hn] at hat ⊢
  rw [hr]
  obtain ⟨y, HY⟩ : ∃ y, Hid (gq q i = y) := ⟨_, rfl⟩
  have hcop := hh.pt.cop i
  have hrow := PtW.node hh.pt i hi
  rw [HY.out] at hcop hrow
  have hk : CK W w.heap.size p g (o0 + i * 6) n X.ds y := by
    have e0 : BoxN W w.heap.size 67 #[ptr p] := by rw [hW]; exact (BoxN.new w _ _).below (by repeat (first | assumption | exact Below.refl _ _ | apply Below.al | apply below_drewN | apply Below.drew | refine Below.next ?_ (by assumption)))
    have e1 : BoxN W (w.heap.size + 1) 3 #[.int .i64 n] := by
      rw [hW]
      have := (BoxN.new (w.alloc (.cells #[ptr p] 67)) 3 #[.int .i64 n]).below (Below.al (Below.refl _ _) (.cells #[.pointer (some ⟨g, o0 + i * 6, none⟩)] 70))
      simpa using this
    have e2 : BoxN W (w.heap.size + 2) 70 #[.pointer (some ⟨g, o0 + i * 6, none⟩)] := by
      rw [hW]
      have := BoxN.new ((w.alloc (.cells #[ptr p] 67)).alloc (.cells #[.int .i64 n] 3)) 70 #[.pointer (some ⟨g, o0 + i * 6, none⟩)]
      simpa using this
    exact ⟨e0.cell 0, e1.cell 0, e2.cell 0, hh.box.cell 0, hrow⟩
  clear hrow
  obtain ⟨o, HO⟩ : ∃ o, Hid (o0 + i * 6 = o) := ⟨_, rfl⟩
  rw [HO.out] at hk hW hat
  have HK := Lib.hid hk
  have HH := Lib.hid hh
  have HA := Lib.hid hat
  have HC := Lib.hid hcop
  have e1 := hcop.st
  have e2 := hcop.tt
  have e3 := hcop.of
  have e4 := hcop.nx
  obtain ⟨m, hm⟩ : ∃ m : Int, (if n = X.ds then 4 else 3) = m := ⟨_, rfl⟩
  obtain ⟨tks, hT⟩ : ∃ l, (gc X.cs i).tk = l := ⟨_, rfl⟩
  obtain ⟨kps, hKp⟩ : ∃ l, (gc X.cs i).kp = l := ⟨_, rfl⟩
  have hgood : copOK X n (gc X.cs i) ↔ cpOK X n m y tks kps := by
    unfold cpOK
    rw [← hm, ← hT, ← hKp]
    rw [List.any_eq_false, List.any_eq_false]
    unfold copOK stOK ofOK
    rw [e1, e2, e3, e4]
    have a1 : (∀ x, x ∈ (gc X.cs i).tk → ¬ (!decide (tagOK X x n)) = true) ↔ ∀ t, t ∈ (gc X.cs i).tk → tagOK X t n := by simp
    have a2 : (∀ x, x ∈ (gc X.cs i).kp → ¬ (!decide (x ∈ (gc X.cs i).tk)) = true) ↔ ∀ t, t ∈ (gc X.cs i).kp → t ∈ (gc X.cs i).tk := by simp
    rw [a1, a2]
    generalize (∀ t, t ∈ (gc X.cs i).tk → tagOK X t n) = P1
    generalize (∀ t, t ∈ (gc X.cs i).kp → t ∈ (gc X.cs i).tk) = P2
    generalize asc (gc X.cs i).tk = P3
    generalize asc (gc X.cs i).kp = P4
    generalize isN X (gc X.cs i).tt = P5
    generalize gc X.cs i = c
    by_cases hd : n = X.ds
    · rw [if_pos hd]
      constructor
      · rintro ⟨⟨h1, h2, h3, h4⟩, ⟨h5, h6⟩, h7, h8, h9, h10⟩
        have h3 := h3 hd
        refine ⟨by omega, ?_, ?_, ⟨h7, h8⟩, h9, h10⟩
        · rintro ⟨k1, k2⟩; have := h5 k1; omega
        · rintro ⟨k1, k2⟩
          obtain ⟨m1, m2, m3, m4⟩ := h6 k1
          rcases k2 with k2 | k2 | k2 | k2
          · exact k2 m1
          · exact m2 k2
          · omega
          · exact k2 m4
      · rintro ⟨h1, h2, h3, ⟨h7, h8⟩, h9, h10⟩
        refine ⟨⟨by omega, by omega, fun _ => by omega, by omega⟩, ⟨fun k => by omega, fun k => ⟨?_, ?_, ?_, ?_⟩⟩, h7, h8, h9, h10⟩
        · exact Classical.not_not.1 (fun m => h3 ⟨k, .inl m⟩)
        · exact fun m => h3 ⟨k, .inr (.inl m)⟩
        · omega
        · omega
    · rw [if_neg hd]
      constructor
      · rintro ⟨⟨h1, h2, h3, h4⟩, ⟨h5, h6⟩, h7, h8, h9, h10⟩
        refine ⟨by omega, ?_, ?_, ⟨h7, h8⟩, h9, h10⟩
        · rintro ⟨k1, k2⟩; have := h5 k1; omega
        · rintro ⟨k1, k2⟩
          obtain ⟨m1, m2, m3, m4⟩ := h6 k1
          rcases k2 with k2 | k2 | k2 | k2
          · exact k2 m1
          · exact m2 k2
          · omega
          · exact k2 m4
      · rintro ⟨h1, h2, h3, ⟨h7, h8⟩, h9, h10⟩
        refine ⟨⟨by omega, by omega, fun k => absurd k hd, by omega⟩, ⟨fun k => by omega, fun k => ⟨?_, ?_, ?_, ?_⟩⟩, h7, h8, h9, h10⟩
        · exact Classical.not_not.1 (fun m => h3 ⟨k, .inl m⟩)
        · exact fun m => h3 ⟨k, .inr (.inl m)⟩
        · omega
        · omega
  rw [show decide (copOK X n (gc X.cs i)) = decide (cpOK X n m y tks kps) from decide_eq_decide.2 hgood] at hr
  have HR := Lib.hid hr
  have htk : RdG W y.tv tks := by rw [← hT]; exact hcop.tk
  have hkp : RdG W y.kv kps := by rw [← hKp]; exact hcop.kp
  have HTK := Lib.hid htk
  have HKP := Lib.hid hkp
  clear htk hkp hT hKp hr hgood e1 e2 e3 e4 hcop hh hk hat h hn HC HY
  have hB := hB0
  clear hB0
  go_enter Try.func47, Try.ntmps47
  go_upto_region 3 with (go_at_call 43; refine HA.out.mono ?_; rintro e w1 ⟨rfl, rfl⟩)
  rw [← hW]
  clear hW HA
  obtain ⟨ww, hww⟩ : ∃ ww, ww = W := ⟨_, rfl⟩
  rw [← hww] at HK HH HTK HKP hB ⊢
  clear hww W
  go_cut [18] (fun c wx => c = .bool (decide (n = X.ds)) ∧ Below ww.heap.size ww wx)
  case first =>
    obtain ⟨c0, c1, c2, b0, r0, r1, r2, r3, r4, r5⟩ := HK.out
    clear hm HR
    by_cases hd : n = X.ds
    · have d1 : (n == X.ds) = true := by simp [hd]
      go_quiet (fail)
      go_wp2_with fail
      go_meet
      exact ⟨congrArg Value.bool (decide_eq_true (p := n = X.ds) hd).symm, below_drewN (Below.refl _ _) _⟩
    · have d1 : (n == X.ds) = false := by simp [hd]
      go_quiet (fail)
      go_wp2_with fail
      go_meet
      exact ⟨congrArg Value.bool (decide_eq_false (p := n = X.ds) hd).symm, below_drewN (Below.refl _ _) _⟩
  case rest =>
  obtain ⟨rfl, hbx⟩ := hcut
  rename World => wx
  have HK := Lib.hid (HK.out.keep hbx)
  have HH := Lib.hid (HH.out.keep hbx)
  have HTK := Lib.hid (HTK.out.keep hbx)
  have HKP := Lib.hid (HKP.out.keep hbx)
  have hB := Below.next hB hbx
  clear hbx
  go_upto_if 18 with fail
  obtain ⟨ww, hww⟩ : ∃ ww, ww = wx := ⟨_, rfl⟩
  rw [← hww] at HK HH HTK HKP hB ⊢
  clear hww wx
  go_cut [6] (fun c wx => c = .int .i64 m ∧ Below ww.heap.size ww wx)
  case first =>
    clear HR
    by_cases hd : n = X.ds
    · rw [if_pos hd] at hm
      subst hm
      have d1 := yb hd
      go_wp2_with fail
      go_meet
      exact ⟨rfl, Below.refl _ _⟩
    · rw [if_neg hd] at hm
      subst hm
      have d1 := nb hd
      go_wp2_with fail
      go_meet
      exact ⟨rfl, Below.refl _ _⟩
  case rest =>
  obtain ⟨rfl, hbx⟩ := hcut
  rename World => wx
  have HK := Lib.hid (HK.out.keep hbx)
  have HH := Lib.hid (HH.out.keep hbx)
  have HTK := Lib.hid (HTK.out.keep hbx)
  have HKP := Lib.hid (HKP.out.keep hbx)
  have hB := Below.next hB hbx
  clear hbx
  clear hm
  go_upto_region 5 with fail
  obtain ⟨ww, hww⟩ : ∃ ww, ww = wx := ⟨_, rfl⟩
  rw [← hww] at HK HH HTK HKP hB ⊢
  clear hww wx
  go_cut [19] (fun c wx => c = .bool (decide (y.st < 0 ∨ m < y.st ∨ (n = X.ds ∧ y.st ≠ 0 ∧ y.st ≠ 4) ∨ y.nx < 0 ∨ 1099511627776 < y.nx)) ∧ Below ww.heap.size ww wx)
  case first =>
   as_aux_lemma =>
    obtain ⟨c0, c1, c2, b0, r0, r1, r2, r3, r4, r5⟩ := HK.out
    clear HR
    obtain ⟨x4, hx4⟩ : ∃ b, (decide (y.st < 0)) = b := ⟨_, rfl⟩
    obtain ⟨x11, hx11⟩ : ∃ b, (decide (m < y.st)) = b := ⟨_, rfl⟩
    obtain ⟨x20, hx20⟩ : ∃ b, (n == X.ds) = b := ⟨_, rfl⟩
    obtain ⟨x26, hx26⟩ : ∃ b, (y.st != 0) = b := ⟨_, rfl⟩
    obtain ⟨x33, hx33⟩ : ∃ b, (y.st != 4) = b := ⟨_, rfl⟩
    obtain ⟨x41, hx41⟩ : ∃ b, (decide (y.nx < 0)) = b := ⟨_, rfl⟩
    obtain ⟨x48, hx48⟩ : ∃ b, (decide (1099511627776 < y.nx)) = b := ⟨_, rfl⟩
    refine wp_region_sym (fun w' => Below ww.heap.size ww w') (by kernel_rfl) (by kernel_rfl) ((Below.refl _ ww).drew) ?_
    refine q_run1 20 5 (v := ?_) rfl rfl rfl ?_ ?_
    rotate_left
    · (intro A hA wS hS; (obtain ⟨c0, c1, c2, b0, r0, r1, r2, r3, r4, r5⟩ := HK.out.keep hS); go_simp; (try with_reducible rfl))
    dsimp only [putT, List.toList_toArray, List.set_cons_zero, List.set_cons_succ]
    refine q_run1 21 20 (v := ?_) rfl rfl rfl ?_ ?_
    rotate_left
    · (intro A hA wS hS; skip; go_simp; (try with_reducible rfl))
    dsimp only [putT, List.toList_toArray, List.set_cons_zero, List.set_cons_succ]
    refine q_run1 22 21 (v := ?_) rfl rfl rfl ?_ ?_
    rotate_left
    · (intro A hA wS hS; skip; go_simp; (try with_reducible rfl))
    dsimp only [putT, List.toList_toArray, List.set_cons_zero, List.set_cons_succ]
    refine q_run1 23 22 (v := ?_) rfl rfl rfl ?_ ?_
    rotate_left
    · (intro A hA wS hS; (obtain ⟨c0, c1, c2, b0, r0, r1, r2, r3, r4, r5⟩ := HK.out.keep hS); go_simp; (try with_reducible rfl))
    dsimp only [putT, List.toList_toArray, List.set_cons_zero, List.set_cons_succ]
    refine q_run1 24 23 (v := ?_) rfl rfl rfl ?_ ?_
    rotate_left
    · (intro A hA wS hS; skip; go_simp; (try with_reducible rfl))
    dsimp only [putT, List.toList_toArray, List.set_cons_zero, List.set_cons_succ]
    refine q_move 25 24 rfl (by first | exact Or.inl rfl | exact Or.inr rfl) rfl rfl ?_
    dsimp only [putT, List.toList_toArray, List.set_cons_zero, List.set_cons_succ]
    refine q_if1 26 5 (g := (!x4)) (v := ?_) rfl rfl (by exact (want_at rfl rfl rfl).trans (wb_f x4)) ?_ ?_
    rotate_left
    · (intro hg A hA wS hS; (try rw [hg, sel_true] at hA); (try simp only [Bool.and_eq_true, Bool.not_eq_true', Bool.or_eq_false_iff] at hg); (obtain ⟨c0, c1, c2, b0, r0, r1, r2, r3, r4, r5⟩ := HK.out.keep hS); go_simp; (try with_reducible rfl))
    dsimp only [putT, List.toList_toArray, List.set_cons_zero, List.set_cons_succ]
    refine q_if1 27 26 (g := (!x4)) (v := ?_) rfl rfl (by exact (want_at rfl rfl rfl).trans (wb_f x4)) ?_ ?_
    rotate_left
    · (intro hg A hA wS hS; (try rw [hg, sel_true] at hA); (try simp only [Bool.and_eq_true, Bool.not_eq_true', Bool.or_eq_false_iff] at hg); skip; go_simp; (try with_reducible rfl))
    dsimp only [putT, List.toList_toArray, List.set_cons_zero, List.set_cons_succ]
    refine q_if1 28 27 (g := (!x4)) (v := ?_) rfl rfl (by exact (want_at rfl rfl rfl).trans (wb_f x4)) ?_ ?_
    rotate_left
    · (intro hg A hA wS hS; (try rw [hg, sel_true] at hA); (try simp only [Bool.and_eq_true, Bool.not_eq_true', Bool.or_eq_false_iff] at hg); skip; go_simp; (try with_reducible rfl))
    dsimp only [putT, List.toList_toArray, List.set_cons_zero, List.set_cons_succ]
    refine q_if1 29 28 (g := (!x4)) (v := ?_) rfl rfl (by exact (want_at rfl rfl rfl).trans (wb_f x4)) ?_ ?_
    rotate_left
    · (intro hg A hA wS hS; (try rw [hg, sel_true] at hA); (try simp only [Bool.and_eq_true, Bool.not_eq_true', Bool.or_eq_false_iff] at hg); (obtain ⟨c0, c1, c2, b0, r0, r1, r2, r3, r4, r5⟩ := HK.out.keep hS); go_simp; (try with_reducible rfl))
    dsimp only [putT, List.toList_toArray, List.set_cons_zero, List.set_cons_succ]
    refine q_moveg 30 6 (g := (!x4)) rfl rfl (by exact (want_at rfl rfl rfl).trans (wb_f x4)) (by first | exact Or.inr rfl | exact Or.inl rfl) ?_
    dsimp only [putT, List.toList_toArray, List.set_cons_zero, List.set_cons_succ]
    refine q_if2 31 29 30 (g := (!x4)) (v := ?_) rfl rfl rfl (by exact (want_at rfl rfl rfl).trans (wb_f x4)) ?_ ?_
    rotate_left
    · (intro hg A hA hA2 wS hS; (try rw [hg, sel_true] at hA); (try rw [hg, sel_true] at hA2); (try simp only [Bool.and_eq_true, Bool.not_eq_true', Bool.or_eq_false_iff] at hg); skip; go_simp; (try with_reducible rfl))
    dsimp only [putT, List.toList_toArray, List.set_cons_zero, List.set_cons_succ]
    refine q_pick 32 25 31 (v := .bool (x4 || x11)) rfl rfl rfl rfl rfl (pk_or x4 x11) ?_
    dsimp only [putT, List.toList_toArray, List.set_cons_zero, List.set_cons_succ]
    refine q_move 33 32 rfl (by first | exact Or.inl rfl | exact Or.inr rfl) rfl rfl ?_
    dsimp only [putT, List.toList_toArray, List.set_cons_zero, List.set_cons_succ]
    refine q_if1 34 3 (g := (!(x4 || x11))) (v := ?_) rfl rfl (by exact (want_at rfl rfl rfl).trans (wb_f (x4 || x11))) ?_ ?_
    rotate_left
    · (intro hg A hA wS hS; (try rw [hg, sel_true] at hA); (try simp only [Bool.and_eq_true, Bool.not_eq_true', Bool.or_eq_false_iff] at hg); (obtain ⟨c0, c1, c2, b0, r0, r1, r2, r3, r4, r5⟩ := HK.out.keep hS); go_simp; (try with_reducible rfl))
    dsimp only [putT, List.toList_toArray, List.set_cons_zero, List.set_cons_succ]
    refine q_if1 35 2 (g := (!(x4 || x11))) (v := ?_) rfl rfl (by exact (want_at rfl rfl rfl).trans (wb_f (x4 || x11))) ?_ ?_
    rotate_left
    · (intro hg A hA wS hS; (try rw [hg, sel_true] at hA); (try simp only [Bool.and_eq_true, Bool.not_eq_true', Bool.or_eq_false_iff] at hg); (obtain ⟨c0, c1, c2, b0, r0, r1, r2, r3, r4, r5⟩ := HK.out.keep hS); go_simp; (try with_reducible rfl))
    dsimp only [putT, List.toList_toArray, List.set_cons_zero, List.set_cons_succ]
    refine q_if1 36 35 (g := (!(x4 || x11))) (v := ?_) rfl rfl (by exact (want_at rfl rfl rfl).trans (wb_f (x4 || x11))) ?_ ?_
    rotate_left
    · (intro hg A hA wS hS; (try rw [hg, sel_true] at hA); (try simp only [Bool.and_eq_true, Bool.not_eq_true', Bool.or_eq_false_iff] at hg); skip; go_simp; (try with_reducible rfl))
    dsimp only [putT, List.toList_toArray, List.set_cons_zero, List.set_cons_succ]
    refine q_if1 37 36 (g := (!(x4 || x11))) (v := ?_) rfl rfl (by exact (want_at rfl rfl rfl).trans (wb_f (x4 || x11))) ?_ ?_
    rotate_left
    · (intro hg A hA wS hS; (try rw [hg, sel_true] at hA); (try simp only [Bool.and_eq_true, Bool.not_eq_true', Bool.or_eq_false_iff] at hg); skip; go_simp; (try with_reducible rfl))
    dsimp only [putT, List.toList_toArray, List.set_cons_zero, List.set_cons_succ]
    refine q_if1 38 37 (g := (!(x4 || x11))) (v := ?_) rfl rfl (by exact (want_at rfl rfl rfl).trans (wb_f (x4 || x11))) ?_ ?_
    rotate_left
    · (intro hg A hA wS hS; (try rw [hg, sel_true] at hA); (try simp only [Bool.and_eq_true, Bool.not_eq_true', Bool.or_eq_false_iff] at hg); skip; go_simp; (try with_reducible rfl))
    dsimp only [putT, List.toList_toArray, List.set_cons_zero, List.set_cons_succ]
    refine q_if1 39 38 (g := (!(x4 || x11))) (v := ?_) rfl rfl (by exact (want_at rfl rfl rfl).trans (wb_f (x4 || x11))) ?_ ?_
    rotate_left
    · (intro hg A hA wS hS; (try rw [hg, sel_true] at hA); (try simp only [Bool.and_eq_true, Bool.not_eq_true', Bool.or_eq_false_iff] at hg); (obtain ⟨c0, c1, c2, b0, r0, r1, r2, r3, r4, r5⟩ := HK.out.keep hS); go_simp; (try with_reducible rfl))
    dsimp only [putT, List.toList_toArray, List.set_cons_zero, List.set_cons_succ]
    refine q_if2 40 34 39 (g := (!(x4 || x11))) (v := ?_) rfl rfl rfl (by exact (want_at rfl rfl rfl).trans (wb_f (x4 || x11))) ?_ ?_
    rotate_left
    · (intro hg A hA hA2 wS hS; (try rw [hg, sel_true] at hA); (try rw [hg, sel_true] at hA2); (try simp only [Bool.and_eq_true, Bool.not_eq_true', Bool.or_eq_false_iff] at hg); skip; go_simp; (try with_reducible rfl))
    dsimp only [putT, List.toList_toArray, List.set_cons_zero, List.set_cons_succ]
    refine q_moveg 41 40 (g := (!(x4 || x11))) rfl rfl (by exact (want_at rfl rfl rfl).trans (wb_f (x4 || x11))) (by first | exact Or.inr rfl | exact Or.inl rfl) ?_
    dsimp only [putT, List.toList_toArray, List.set_cons_zero, List.set_cons_succ]
    refine q_if1 42 5 (g := ((!(x4 || x11)) && x20)) (v := ?_) rfl rfl (by exact (want_at rfl rfl rfl).trans (ws_t (!(x4 || x11)) x20)) ?_ ?_
    rotate_left
    · (intro hg A hA wS hS; (try rw [hg, sel_true] at hA); (try simp only [Bool.and_eq_true, Bool.not_eq_true', Bool.or_eq_false_iff] at hg); (obtain ⟨c0, c1, c2, b0, r0, r1, r2, r3, r4, r5⟩ := HK.out.keep hS); go_simp; (try with_reducible rfl))
    dsimp only [putT, List.toList_toArray, List.set_cons_zero, List.set_cons_succ]
    refine q_if1 43 42 (g := ((!(x4 || x11)) && x20)) (v := ?_) rfl rfl (by exact (want_at rfl rfl rfl).trans (ws_t (!(x4 || x11)) x20)) ?_ ?_
    rotate_left
    · (intro hg A hA wS hS; (try rw [hg, sel_true] at hA); (try simp only [Bool.and_eq_true, Bool.not_eq_true', Bool.or_eq_false_iff] at hg); skip; go_simp; (try with_reducible rfl))
    dsimp only [putT, List.toList_toArray, List.set_cons_zero, List.set_cons_succ]
    refine q_if1 44 43 (g := ((!(x4 || x11)) && x20)) (v := ?_) rfl rfl (by exact (want_at rfl rfl rfl).trans (ws_t (!(x4 || x11)) x20)) ?_ ?_
    rotate_left
    · (intro hg A hA wS hS; (try rw [hg, sel_true] at hA); (try simp only [Bool.and_eq_true, Bool.not_eq_true', Bool.or_eq_false_iff] at hg); skip; go_simp; (try with_reducible rfl))
    dsimp only [putT, List.toList_toArray, List.set_cons_zero, List.set_cons_succ]
    refine q_if1 45 44 (g := ((!(x4 || x11)) && x20)) (v := ?_) rfl rfl (by exact (want_at rfl rfl rfl).trans (ws_t (!(x4 || x11)) x20)) ?_ ?_
    rotate_left
    · (intro hg A hA wS hS; (try rw [hg, sel_true] at hA); (try simp only [Bool.and_eq_true, Bool.not_eq_true', Bool.or_eq_false_iff] at hg); (obtain ⟨c0, c1, c2, b0, r0, r1, r2, r3, r4, r5⟩ := HK.out.keep hS); go_simp; (try with_reducible rfl))
    dsimp only [putT, List.toList_toArray, List.set_cons_zero, List.set_cons_succ]
    refine q_if1 46 45 (g := ((!(x4 || x11)) && x20)) (v := ?_) rfl rfl (by exact (want_at rfl rfl rfl).trans (ws_t (!(x4 || x11)) x20)) ?_ ?_
    rotate_left
    · (intro hg A hA wS hS; (try rw [hg, sel_true] at hA); (try simp only [Bool.and_eq_true, Bool.not_eq_true', Bool.or_eq_false_iff] at hg); skip; go_simp; (try with_reducible rfl))
    dsimp only [putT, List.toList_toArray, List.set_cons_zero, List.set_cons_succ]
    refine q_pickAG 47 41 46 (g := (!(x4 || x11))) (v := .bool (x20 && x26)) rfl rfl rfl rfl (by exact (want_at rfl rfl rfl).trans (wb_f (x4 || x11))) (fun hg => pk_gand (!(x4 || x11)) x20 x26 hg) ?_
    dsimp only [putT, List.toList_toArray, List.set_cons_zero, List.set_cons_succ]
    refine q_moveg 48 47 (g := (!(x4 || x11))) rfl rfl (by exact (want_at rfl rfl rfl).trans (wb_f (x4 || x11))) (by first | exact Or.inr rfl | exact Or.inl rfl) ?_
    dsimp only [putT, List.toList_toArray, List.set_cons_zero, List.set_cons_succ]
    refine q_if1 49 5 (g := ((!(x4 || x11)) && (x20 && x26))) (v := ?_) rfl rfl (by exact (want_at rfl rfl rfl).trans (ws_t (!(x4 || x11)) (x20 && x26))) ?_ ?_
    rotate_left
    · (intro hg A hA wS hS; (try rw [hg, sel_true] at hA); (try simp only [Bool.and_eq_true, Bool.not_eq_true', Bool.or_eq_false_iff] at hg); (obtain ⟨c0, c1, c2, b0, r0, r1, r2, r3, r4, r5⟩ := HK.out.keep hS); go_simp; (try with_reducible rfl))
    dsimp only [putT, List.toList_toArray, List.set_cons_zero, List.set_cons_succ]
    refine q_if1 50 49 (g := ((!(x4 || x11)) && (x20 && x26))) (v := ?_) rfl rfl (by exact (want_at rfl rfl rfl).trans (ws_t (!(x4 || x11)) (x20 && x26))) ?_ ?_
    rotate_left
    · (intro hg A hA wS hS; (try rw [hg, sel_true] at hA); (try simp only [Bool.and_eq_true, Bool.not_eq_true', Bool.or_eq_false_iff] at hg); skip; go_simp; (try with_reducible rfl))
    dsimp only [putT, List.toList_toArray, List.set_cons_zero, List.set_cons_succ]
    refine q_if1 51 50 (g := ((!(x4 || x11)) && (x20 && x26))) (v := ?_) rfl rfl (by exact (want_at rfl rfl rfl).trans (ws_t (!(x4 || x11)) (x20 && x26))) ?_ ?_
    rotate_left
    · (intro hg A hA wS hS; (try rw [hg, sel_true] at hA); (try simp only [Bool.and_eq_true, Bool.not_eq_true', Bool.or_eq_false_iff] at hg); skip; go_simp; (try with_reducible rfl))
    dsimp only [putT, List.toList_toArray, List.set_cons_zero, List.set_cons_succ]
    refine q_if1 52 51 (g := ((!(x4 || x11)) && (x20 && x26))) (v := ?_) rfl rfl (by exact (want_at rfl rfl rfl).trans (ws_t (!(x4 || x11)) (x20 && x26))) ?_ ?_
    rotate_left
    · (intro hg A hA wS hS; (try rw [hg, sel_true] at hA); (try simp only [Bool.and_eq_true, Bool.not_eq_true', Bool.or_eq_false_iff] at hg); (obtain ⟨c0, c1, c2, b0, r0, r1, r2, r3, r4, r5⟩ := HK.out.keep hS); go_simp; (try with_reducible rfl))
    dsimp only [putT, List.toList_toArray, List.set_cons_zero, List.set_cons_succ]
    refine q_if1 53 52 (g := ((!(x4 || x11)) && (x20 && x26))) (v := ?_) rfl rfl (by exact (want_at rfl rfl rfl).trans (ws_t (!(x4 || x11)) (x20 && x26))) ?_ ?_
    rotate_left
    · (intro hg A hA wS hS; (try rw [hg, sel_true] at hA); (try simp only [Bool.and_eq_true, Bool.not_eq_true', Bool.or_eq_false_iff] at hg); skip; go_simp; (try with_reducible rfl))
    dsimp only [putT, List.toList_toArray, List.set_cons_zero, List.set_cons_succ]
    refine q_pickAG 54 48 53 (g := (!(x4 || x11))) (v := .bool ((x20 && x26) && x33)) rfl rfl rfl rfl (by exact (want_at rfl rfl rfl).trans (wb_f (x4 || x11))) (fun hg => pk_gand (!(x4 || x11)) (x20 && x26) x33 hg) ?_
    dsimp only [putT, List.toList_toArray, List.set_cons_zero, List.set_cons_succ]
    refine q_pick 55 33 54 (v := .bool ((x4 || x11) || ((x20 && x26) && x33))) rfl rfl rfl rfl rfl (pk_or (x4 || x11) ((x20 && x26) && x33)) ?_
    dsimp only [putT, List.toList_toArray, List.set_cons_zero, List.set_cons_succ]
    refine q_move 56 55 rfl (by first | exact Or.inl rfl | exact Or.inr rfl) rfl rfl ?_
    dsimp only [putT, List.toList_toArray, List.set_cons_zero, List.set_cons_succ]
    refine q_if1 57 5 (g := (!((x4 || x11) || ((x20 && x26) && x33)))) (v := ?_) rfl rfl (by exact (want_at rfl rfl rfl).trans (wb_f ((x4 || x11) || ((x20 && x26) && x33)))) ?_ ?_
    rotate_left
    · (intro hg A hA wS hS; (try rw [hg, sel_true] at hA); (try simp only [Bool.and_eq_true, Bool.not_eq_true', Bool.or_eq_false_iff] at hg); (obtain ⟨c0, c1, c2, b0, r0, r1, r2, r3, r4, r5⟩ := HK.out.keep hS); go_simp; (try with_reducible rfl))
    dsimp only [putT, List.toList_toArray, List.set_cons_zero, List.set_cons_succ]
    refine q_if1 58 57 (g := (!((x4 || x11) || ((x20 && x26) && x33)))) (v := ?_) rfl rfl (by exact (want_at rfl rfl rfl).trans (wb_f ((x4 || x11) || ((x20 && x26) && x33)))) ?_ ?_
    rotate_left
    · (intro hg A hA wS hS; (try rw [hg, sel_true] at hA); (try simp only [Bool.and_eq_true, Bool.not_eq_true', Bool.or_eq_false_iff] at hg); skip; go_simp; (try with_reducible rfl))
    dsimp only [putT, List.toList_toArray, List.set_cons_zero, List.set_cons_succ]
    refine q_if1 59 58 (g := (!((x4 || x11) || ((x20 && x26) && x33)))) (v := ?_) rfl rfl (by exact (want_at rfl rfl rfl).trans (wb_f ((x4 || x11) || ((x20 && x26) && x33)))) ?_ ?_
    rotate_left
    · (intro hg A hA wS hS; (try rw [hg, sel_true] at hA); (try simp only [Bool.and_eq_true, Bool.not_eq_true', Bool.or_eq_false_iff] at hg); skip; go_simp; (try with_reducible rfl))
    dsimp only [putT, List.toList_toArray, List.set_cons_zero, List.set_cons_succ]
    refine q_if1 60 59 (g := (!((x4 || x11) || ((x20 && x26) && x33)))) (v := ?_) rfl rfl (by exact (want_at rfl rfl rfl).trans (wb_f ((x4 || x11) || ((x20 && x26) && x33)))) ?_ ?_
    rotate_left
    · (intro hg A hA wS hS; (try rw [hg, sel_true] at hA); (try simp only [Bool.and_eq_true, Bool.not_eq_true', Bool.or_eq_false_iff] at hg); (obtain ⟨c0, c1, c2, b0, r0, r1, r2, r3, r4, r5⟩ := HK.out.keep hS); go_simp; (try with_reducible rfl))
    dsimp only [putT, List.toList_toArray, List.set_cons_zero, List.set_cons_succ]
    refine q_if1 61 60 (g := (!((x4 || x11) || ((x20 && x26) && x33)))) (v := ?_) rfl rfl (by exact (want_at rfl rfl rfl).trans (wb_f ((x4 || x11) || ((x20 && x26) && x33)))) ?_ ?_
    rotate_left
    · (intro hg A hA wS hS; (try rw [hg, sel_true] at hA); (try simp only [Bool.and_eq_true, Bool.not_eq_true', Bool.or_eq_false_iff] at hg); skip; go_simp; (try with_reducible rfl))
    dsimp only [putT, List.toList_toArray, List.set_cons_zero, List.set_cons_succ]
    refine q_pick 62 56 61 (v := .bool (((x4 || x11) || ((x20 && x26) && x33)) || x41)) rfl rfl rfl rfl rfl (pk_or ((x4 || x11) || ((x20 && x26) && x33)) x41) ?_
    dsimp only [putT, List.toList_toArray, List.set_cons_zero, List.set_cons_succ]
    refine q_move 63 62 rfl (by first | exact Or.inl rfl | exact Or.inr rfl) rfl rfl ?_
    dsimp only [putT, List.toList_toArray, List.set_cons_zero, List.set_cons_succ]
    refine q_if1 64 5 (g := (!(((x4 || x11) || ((x20 && x26) && x33)) || x41))) (v := ?_) rfl rfl (by exact (want_at rfl rfl rfl).trans (wb_f (((x4 || x11) || ((x20 && x26) && x33)) || x41))) ?_ ?_
    rotate_left
    · (intro hg A hA wS hS; (try rw [hg, sel_true] at hA); (try simp only [Bool.and_eq_true, Bool.not_eq_true', Bool.or_eq_false_iff] at hg); (obtain ⟨c0, c1, c2, b0, r0, r1, r2, r3, r4, r5⟩ := HK.out.keep hS); go_simp; (try with_reducible rfl))
    dsimp only [putT, List.toList_toArray, List.set_cons_zero, List.set_cons_succ]
    refine q_if1 65 64 (g := (!(((x4 || x11) || ((x20 && x26) && x33)) || x41))) (v := ?_) rfl rfl (by exact (want_at rfl rfl rfl).trans (wb_f (((x4 || x11) || ((x20 && x26) && x33)) || x41))) ?_ ?_
    rotate_left
    · (intro hg A hA wS hS; (try rw [hg, sel_true] at hA); (try simp only [Bool.and_eq_true, Bool.not_eq_true', Bool.or_eq_false_iff] at hg); skip; go_simp; (try with_reducible rfl))
    dsimp only [putT, List.toList_toArray, List.set_cons_zero, List.set_cons_succ]
    refine q_if1 66 65 (g := (!(((x4 || x11) || ((x20 && x26) && x33)) || x41))) (v := ?_) rfl rfl (by exact (want_at rfl rfl rfl).trans (wb_f (((x4 || x11) || ((x20 && x26) && x33)) || x41))) ?_ ?_
    rotate_left
    · (intro hg A hA wS hS; (try rw [hg, sel_true] at hA); (try simp only [Bool.and_eq_true, Bool.not_eq_true', Bool.or_eq_false_iff] at hg); skip; go_simp; (try with_reducible rfl))
    dsimp only [putT, List.toList_toArray, List.set_cons_zero, List.set_cons_succ]
    refine q_if1 67 66 (g := (!(((x4 || x11) || ((x20 && x26) && x33)) || x41))) (v := ?_) rfl rfl (by exact (want_at rfl rfl rfl).trans (wb_f (((x4 || x11) || ((x20 && x26) && x33)) || x41))) ?_ ?_
    rotate_left
    · (intro hg A hA wS hS; (try rw [hg, sel_true] at hA); (try simp only [Bool.and_eq_true, Bool.not_eq_true', Bool.or_eq_false_iff] at hg); (obtain ⟨c0, c1, c2, b0, r0, r1, r2, r3, r4, r5⟩ := HK.out.keep hS); go_simp; (try with_reducible rfl))
    dsimp only [putT, List.toList_toArray, List.set_cons_zero, List.set_cons_succ]
    refine q_if1 68 67 (g := (!(((x4 || x11) || ((x20 && x26) && x33)) || x41))) (v := ?_) rfl rfl (by exact (want_at rfl rfl rfl).trans (wb_f (((x4 || x11) || ((x20 && x26) && x33)) || x41))) ?_ ?_
    rotate_left
    · (intro hg A hA wS hS; (try rw [hg, sel_true] at hA); (try simp only [Bool.and_eq_true, Bool.not_eq_true', Bool.or_eq_false_iff] at hg); skip; go_simp; (try with_reducible rfl))
    dsimp only [putT, List.toList_toArray, List.set_cons_zero, List.set_cons_succ]
    refine q_pick 69 63 68 (v := .bool ((((x4 || x11) || ((x20 && x26) && x33)) || x41) || x48)) rfl rfl rfl rfl rfl (pk_or (((x4 || x11) || ((x20 && x26) && x33)) || x41) x48) ?_
    dsimp only [putT, List.toList_toArray, List.set_cons_zero, List.set_cons_succ]
    refine q_move 19 69 rfl (by first | exact Or.inl rfl | exact Or.inr rfl) rfl rfl ?_
    dsimp only [putT, List.toList_toArray, List.set_cons_zero, List.set_cons_succ]
    refine wpQuiet_nil ?_
    intro wS hS
    go_wp2_with fail
    go_meet
    refine ⟨congrArg Value.bool ?_, hS⟩
    rw [← hx4, ← hx11, ← hx20, ← hx26, ← hx33, ← hx41, ← hx48]
    apply Bool.eq_iff_iff.2
    simp only [Bool.or_eq_true, Bool.and_eq_true, decide_eq_true_eq, beq_iff_eq, bne_iff_ne]
    omega
  case rest =>
  obtain ⟨hcc, hbx⟩ := hcut
  rename World => wx
  have HK := Lib.hid (HK.out.keep hbx)
  have HH := Lib.hid (HH.out.keep hbx)
  have HTK := Lib.hid (HTK.out.keep hbx)
  have HKP := Lib.hid (HKP.out.keep hbx)
  have hB := Below.next hB hbx
  clear hbx
  by_cases hbad : y.st < 0 ∨ m < y.st ∨ (n = X.ds ∧ y.st ≠ 0 ∧ y.st ≠ 4) ∨ y.nx < 0 ∨ 1099511627776 < y.nx
  · rw [yb hbad] at hcc
    subst hcc
    obtain rfl : r = false := by rw [← HR.out]; exact nb (fun hg => hg.1 hbad)
    go_wp2_with fail
    go_ret
    exact ⟨rfl, hB⟩
  rw [nb hbad] at hcc
  subst hcc
  have HB1 := Lib.hid hbad
  clear hbad
  go_upto_region 7 with fail
  obtain ⟨ww, hww⟩ : ∃ ww, ww = wx := ⟨_, rfl⟩
  rw [← hww] at HK HH HTK HKP hB ⊢
  clear hww wx
  go_cut [70] (fun c wx => c = .bool (decide (y.st ≠ 2 ∧ (y.tt ≠ 0 ∨ y.of ≠ 0))) ∧ Below ww.heap.size ww wx)
  case first =>
   as_aux_lemma =>
    obtain ⟨c0, c1, c2, b0, r0, r1, r2, r3, r4, r5⟩ := HK.out
    clear HR
    by_cases k1 : y.st = 2
    · have d1 : (y.st != 2) = false := by simp [k1]
      go_wp2_with fail
      go_meet
      exact ⟨congrArg Value.bool (nb (fun h => h.1 k1)).symm, Below.refl _ _⟩
    have d1 : (y.st != 2) = true := by simp [k1]
    by_cases k2 : y.tt = 0
    · have d2 : (y.tt != 0) = false := by simp [k2]
      by_cases k3 : y.of = 0
      · have d3 : (y.of != 0) = false := by simp [k3]
        go_wp2_with fail
        go_meet
        exact ⟨congrArg Value.bool (nb (fun h => by omega)).symm, Below.refl _ _⟩
      have d3 : (y.of != 0) = true := by simp [k3]
      go_wp2_with fail
      go_meet
      exact ⟨congrArg Value.bool (yb (show _ ∧ _ from ⟨k1, .inr k3⟩)).symm, Below.refl _ _⟩
    have d2 : (y.tt != 0) = true := by simp [k2]
    go_wp2_with fail
    go_meet
    exact ⟨congrArg Value.bool (yb (show _ ∧ _ from ⟨k1, .inl k2⟩)).symm, Below.refl _ _⟩
  case rest =>
  obtain ⟨hcc, hbx⟩ := hcut
  rename World => wx
  have HK := Lib.hid (HK.out.keep hbx)
  have HH := Lib.hid (HH.out.keep hbx)
  have HTK := Lib.hid (HTK.out.keep hbx)
  have HKP := Lib.hid (HKP.out.keep hbx)
  have hB := Below.next hB hbx
  clear hbx
  by_cases hbad : y.st ≠ 2 ∧ (y.tt ≠ 0 ∨ y.of ≠ 0)
  · rw [yb hbad] at hcc
    subst hcc
    obtain rfl : r = false := by rw [← HR.out]; exact nb (fun hg => hg.2.1 hbad)
    go_wp2_with fail
    go_ret
    exact ⟨rfl, hB⟩
  rw [nb hbad] at hcc
  subst hcc
  have HB2 := Lib.hid hbad
  clear hbad
  go_upto_region 9 with fail
  obtain ⟨ww, hww⟩ : ∃ ww, ww = wx := ⟨_, rfl⟩
  rw [← hww] at HK HH HTK HKP hB ⊢
  clear hww wx
  go_cut [90] (fun c wx => c = .bool (decide (y.st = 2 ∧ (¬ isN X y.tt ∨ y.tt = n ∨ y.nx < 1 ∨ y.of ≠ y.nx - 1))) ∧ Below ww.heap.size ww wx)
  case first =>
   as_aux_lemma =>
    obtain ⟨c0, c1, c2, b0, r0, r1, r2, r3, r4, r5⟩ := HK.out
    clear HR
    obtain ⟨x4, hx4⟩ : ∃ b, (y.st == 2) = b := ⟨_, rfl⟩
    obtain ⟨x11, hx11⟩ : ∃ b, (decide (isN X y.tt)) = b := ⟨_, rfl⟩
    obtain ⟨x19, hx19⟩ : ∃ b, (y.tt == n) = b := ⟨_, rfl⟩
    obtain ⟨x26, hx26⟩ : ∃ b, (decide (y.nx < 1)) = b := ⟨_, rfl⟩
    obtain ⟨x38, hx38⟩ : ∃ b, (y.of != y.nx - 1) = b := ⟨_, rfl⟩
    refine wp_region_sym (fun w' => Below ww.heap.size ww w') (by kernel_rfl) (by kernel_rfl) ((Below.refl _ ww).drew) ?_
    refine q_run1 91 5 (v := ?_) rfl rfl rfl ?_ ?_
    rotate_left
    · (intro A hA wS hS; (obtain ⟨c0, c1, c2, b0, r0, r1, r2, r3, r4, r5⟩ := HK.out.keep hS); go_simp; (try with_reducible rfl))
    dsimp only [putT, List.toList_toArray, List.set_cons_zero, List.set_cons_succ]
    refine q_run1 92 91 (v := ?_) rfl rfl rfl ?_ ?_
    rotate_left
    · (intro A hA wS hS; skip; go_simp; (try with_reducible rfl))
    dsimp only [putT, List.toList_toArray, List.set_cons_zero, List.set_cons_succ]
    refine q_run1 93 92 (v := ?_) rfl rfl rfl ?_ ?_
    rotate_left
    · (intro A hA wS hS; skip; go_simp; (try with_reducible rfl))
    dsimp only [putT, List.toList_toArray, List.set_cons_zero, List.set_cons_succ]
    refine q_run1 94 93 (v := ?_) rfl rfl rfl ?_ ?_
    rotate_left
    · (intro A hA wS hS; (obtain ⟨c0, c1, c2, b0, r0, r1, r2, r3, r4, r5⟩ := HK.out.keep hS); go_simp; (try with_reducible rfl))
    dsimp only [putT, List.toList_toArray, List.set_cons_zero, List.set_cons_succ]
    refine q_run1 95 94 (v := ?_) rfl rfl rfl ?_ ?_
    rotate_left
    · (intro A hA wS hS; skip; go_simp; (try with_reducible rfl))
    dsimp only [putT, List.toList_toArray, List.set_cons_zero, List.set_cons_succ]
    refine q_move 96 95 rfl (by first | exact Or.inl rfl | exact Or.inr rfl) rfl rfl ?_
    dsimp only [putT, List.toList_toArray, List.set_cons_zero, List.set_cons_succ]
    refine q_if1 97 2 (g := x4) (v := ?_) rfl rfl (by exact (want_at rfl rfl rfl).trans (wb_t x4)) ?_ ?_
    rotate_left
    · (intro hg A hA wS hS; (try rw [hg, sel_true] at hA); (try simp only [Bool.and_eq_true, Bool.not_eq_true', Bool.or_eq_false_iff] at hg); (obtain ⟨c0, c1, c2, b0, r0, r1, r2, r3, r4, r5⟩ := HK.out.keep hS); go_simp; (try with_reducible rfl))
    dsimp only [putT, List.toList_toArray, List.set_cons_zero, List.set_cons_succ]
    refine q_if1 98 5 (g := x4) (v := ?_) rfl rfl (by exact (want_at rfl rfl rfl).trans (wb_t x4)) ?_ ?_
    rotate_left
    · (intro hg A hA wS hS; (try rw [hg, sel_true] at hA); (try simp only [Bool.and_eq_true, Bool.not_eq_true', Bool.or_eq_false_iff] at hg); (obtain ⟨c0, c1, c2, b0, r0, r1, r2, r3, r4, r5⟩ := HK.out.keep hS); go_simp; (try with_reducible rfl))
    dsimp only [putT, List.toList_toArray, List.set_cons_zero, List.set_cons_succ]
    refine q_if1 99 98 (g := x4) (v := ?_) rfl rfl (by exact (want_at rfl rfl rfl).trans (wb_t x4)) ?_ ?_
    rotate_left
    · (intro hg A hA wS hS; (try rw [hg, sel_true] at hA); (try simp only [Bool.and_eq_true, Bool.not_eq_true', Bool.or_eq_false_iff] at hg); skip; go_simp; (try with_reducible rfl))
    dsimp only [putT, List.toList_toArray, List.set_cons_zero, List.set_cons_succ]
    refine q_if1 100 99 (g := x4) (v := ?_) rfl rfl (by exact (want_at rfl rfl rfl).trans (wb_t x4)) ?_ ?_
    rotate_left
    · (intro hg A hA wS hS; (try rw [hg, sel_true] at hA); (try simp only [Bool.and_eq_true, Bool.not_eq_true', Bool.or_eq_false_iff] at hg); skip; go_simp; (try with_reducible rfl))
    dsimp only [putT, List.toList_toArray, List.set_cons_zero, List.set_cons_succ]
    refine q_if1 101 100 (g := x4) (v := ?_) rfl rfl (by exact (want_at rfl rfl rfl).trans (wb_t x4)) ?_ ?_
    rotate_left
    · (intro hg A hA wS hS; (try rw [hg, sel_true] at hA); (try simp only [Bool.and_eq_true, Bool.not_eq_true', Bool.or_eq_false_iff] at hg); (obtain ⟨c0, c1, c2, b0, r0, r1, r2, r3, r4, r5⟩ := HK.out.keep hS); go_simp; (try with_reducible rfl))
    dsimp only [putT, List.toList_toArray, List.set_cons_zero, List.set_cons_succ]
    refine q_callif 102 46 (g := x4) (v := .bool x11) (args := ?_) rfl (by exact (want_at rfl rfl rfl).trans (wb_t x4)) ?_ ?_ ?_
    rotate_left 1
    · (intro hg wS hS; (try simp only [hg, sel_true]); (try simp only [Bool.and_eq_true, Bool.not_eq_true', Bool.or_eq_false_iff] at hg); go_simp; (try with_reducible rfl))
    · (intro hg wS hS; (try simp only [Bool.and_eq_true, Bool.not_eq_true', Bool.or_eq_false_iff] at hg); refine (is_any _ p T _ fv q X y.tt (HH.out.keep hS)).mono ?_; (rw [hx11]; rintro e w2 ⟨rfl, rfl⟩; exact ⟨rfl, hS⟩))
    dsimp only [putT, List.toList_toArray, List.set_cons_zero, List.set_cons_succ]
    refine q_if1 103 102 (g := x4) (v := ?_) rfl rfl (by exact (want_at rfl rfl rfl).trans (wb_t x4)) ?_ ?_
    rotate_left
    · (intro hg A hA wS hS; (try rw [hg, sel_true] at hA); (try simp only [Bool.and_eq_true, Bool.not_eq_true', Bool.or_eq_false_iff] at hg); skip; go_simp; (try with_reducible rfl))
    dsimp only [putT, List.toList_toArray, List.set_cons_zero, List.set_cons_succ]
    refine q_moveg 104 103 (g := x4) rfl rfl (by exact (want_at rfl rfl rfl).trans (wb_t x4)) (by first | exact Or.inr rfl | exact Or.inl rfl) ?_
    dsimp only [putT, List.toList_toArray, List.set_cons_zero, List.set_cons_succ]
    refine q_if1 105 5 (g := (x4 && (!(!x11)))) (v := ?_) rfl rfl (by exact (want_at rfl rfl rfl).trans (ws_f x4 (!x11))) ?_ ?_
    rotate_left
    · (intro hg A hA wS hS; (try rw [hg, sel_true] at hA); (try simp only [Bool.and_eq_true, Bool.not_eq_true', Bool.or_eq_false_iff] at hg); (obtain ⟨c0, c1, c2, b0, r0, r1, r2, r3, r4, r5⟩ := HK.out.keep hS); go_simp; (try with_reducible rfl))
    dsimp only [putT, List.toList_toArray, List.set_cons_zero, List.set_cons_succ]
    refine q_if1 106 105 (g := (x4 && (!(!x11)))) (v := ?_) rfl rfl (by exact (want_at rfl rfl rfl).trans (ws_f x4 (!x11))) ?_ ?_
    rotate_left
    · (intro hg A hA wS hS; (try rw [hg, sel_true] at hA); (try simp only [Bool.and_eq_true, Bool.not_eq_true', Bool.or_eq_false_iff] at hg); skip; go_simp; (try with_reducible rfl))
    dsimp only [putT, List.toList_toArray, List.set_cons_zero, List.set_cons_succ]
    refine q_if1 107 106 (g := (x4 && (!(!x11)))) (v := ?_) rfl rfl (by exact (want_at rfl rfl rfl).trans (ws_f x4 (!x11))) ?_ ?_
    rotate_left
    · (intro hg A hA wS hS; (try rw [hg, sel_true] at hA); (try simp only [Bool.and_eq_true, Bool.not_eq_true', Bool.or_eq_false_iff] at hg); skip; go_simp; (try with_reducible rfl))
    dsimp only [putT, List.toList_toArray, List.set_cons_zero, List.set_cons_succ]
    refine q_if1 108 107 (g := (x4 && (!(!x11)))) (v := ?_) rfl rfl (by exact (want_at rfl rfl rfl).trans (ws_f x4 (!x11))) ?_ ?_
    rotate_left
    · (intro hg A hA wS hS; (try rw [hg, sel_true] at hA); (try simp only [Bool.and_eq_true, Bool.not_eq_true', Bool.or_eq_false_iff] at hg); (obtain ⟨c0, c1, c2, b0, r0, r1, r2, r3, r4, r5⟩ := HK.out.keep hS); go_simp; (try with_reducible rfl))
    dsimp only [putT, List.toList_toArray, List.set_cons_zero, List.set_cons_succ]
    refine q_if1 109 3 (g := (x4 && (!(!x11)))) (v := ?_) rfl rfl (by exact (want_at rfl rfl rfl).trans (ws_f x4 (!x11))) ?_ ?_
    rotate_left
    · (intro hg A hA wS hS; (try rw [hg, sel_true] at hA); (try simp only [Bool.and_eq_true, Bool.not_eq_true', Bool.or_eq_false_iff] at hg); (obtain ⟨c0, c1, c2, b0, r0, r1, r2, r3, r4, r5⟩ := HK.out.keep hS); go_simp; (try with_reducible rfl))
    dsimp only [putT, List.toList_toArray, List.set_cons_zero, List.set_cons_succ]
    refine q_if2 110 108 109 (g := (x4 && (!(!x11)))) (v := ?_) rfl rfl rfl (by exact (want_at rfl rfl rfl).trans (ws_f x4 (!x11))) ?_ ?_
    rotate_left
    · (intro hg A hA hA2 wS hS; (try rw [hg, sel_true] at hA); (try rw [hg, sel_true] at hA2); (try simp only [Bool.and_eq_true, Bool.not_eq_true', Bool.or_eq_false_iff] at hg); skip; go_simp; (try with_reducible rfl))
    dsimp only [putT, List.toList_toArray, List.set_cons_zero, List.set_cons_succ]
    refine q_pickG 111 104 110 (g := x4) (v := .bool ((!x11) || x19)) rfl rfl rfl rfl (by exact (want_at rfl rfl rfl).trans (wb_t x4)) (fun hg => pk_gor x4 (!x11) x19 hg) ?_
    dsimp only [putT, List.toList_toArray, List.set_cons_zero, List.set_cons_succ]
    refine q_moveg 112 111 (g := x4) rfl rfl (by exact (want_at rfl rfl rfl).trans (wb_t x4)) (by first | exact Or.inr rfl | exact Or.inl rfl) ?_
    dsimp only [putT, List.toList_toArray, List.set_cons_zero, List.set_cons_succ]
    refine q_if1 113 5 (g := (x4 && (!((!x11) || x19)))) (v := ?_) rfl rfl (by exact (want_at rfl rfl rfl).trans (ws_f x4 ((!x11) || x19))) ?_ ?_
    rotate_left
    · (intro hg A hA wS hS; (try rw [hg, sel_true] at hA); (try simp only [Bool.and_eq_true, Bool.not_eq_true', Bool.or_eq_false_iff] at hg); (obtain ⟨c0, c1, c2, b0, r0, r1, r2, r3, r4, r5⟩ := HK.out.keep hS); go_simp; (try with_reducible rfl))
    dsimp only [putT, List.toList_toArray, List.set_cons_zero, List.set_cons_succ]
    refine q_if1 114 113 (g := (x4 && (!((!x11) || x19)))) (v := ?_) rfl rfl (by exact (want_at rfl rfl rfl).trans (ws_f x4 ((!x11) || x19))) ?_ ?_
    rotate_left
    · (intro hg A hA wS hS; (try rw [hg, sel_true] at hA); (try simp only [Bool.and_eq_true, Bool.not_eq_true', Bool.or_eq_false_iff] at hg); skip; go_simp; (try with_reducible rfl))
    dsimp only [putT, List.toList_toArray, List.set_cons_zero, List.set_cons_succ]
    refine q_if1 115 114 (g := (x4 && (!((!x11) || x19)))) (v := ?_) rfl rfl (by exact (want_at rfl rfl rfl).trans (ws_f x4 ((!x11) || x19))) ?_ ?_
    rotate_left
    · (intro hg A hA wS hS; (try rw [hg, sel_true] at hA); (try simp only [Bool.and_eq_true, Bool.not_eq_true', Bool.or_eq_false_iff] at hg); skip; go_simp; (try with_reducible rfl))
    dsimp only [putT, List.toList_toArray, List.set_cons_zero, List.set_cons_succ]
    refine q_if1 116 115 (g := (x4 && (!((!x11) || x19)))) (v := ?_) rfl rfl (by exact (want_at rfl rfl rfl).trans (ws_f x4 ((!x11) || x19))) ?_ ?_
    rotate_left
    · (intro hg A hA wS hS; (try rw [hg, sel_true] at hA); (try simp only [Bool.and_eq_true, Bool.not_eq_true', Bool.or_eq_false_iff] at hg); (obtain ⟨c0, c1, c2, b0, r0, r1, r2, r3, r4, r5⟩ := HK.out.keep hS); go_simp; (try with_reducible rfl))
    dsimp only [putT, List.toList_toArray, List.set_cons_zero, List.set_cons_succ]
    refine q_if1 117 116 (g := (x4 && (!((!x11) || x19)))) (v := ?_) rfl rfl (by exact (want_at rfl rfl rfl).trans (ws_f x4 ((!x11) || x19))) ?_ ?_
    rotate_left
    · (intro hg A hA wS hS; (try rw [hg, sel_true] at hA); (try simp only [Bool.and_eq_true, Bool.not_eq_true', Bool.or_eq_false_iff] at hg); skip; go_simp; (try with_reducible rfl))
    dsimp only [putT, List.toList_toArray, List.set_cons_zero, List.set_cons_succ]
    refine q_pickG 118 112 117 (g := x4) (v := .bool (((!x11) || x19) || x26)) rfl rfl rfl rfl (by exact (want_at rfl rfl rfl).trans (wb_t x4)) (fun hg => pk_gor x4 ((!x11) || x19) x26 hg) ?_
    dsimp only [putT, List.toList_toArray, List.set_cons_zero, List.set_cons_succ]
    refine q_moveg 119 118 (g := x4) rfl rfl (by exact (want_at rfl rfl rfl).trans (wb_t x4)) (by first | exact Or.inr rfl | exact Or.inl rfl) ?_
    dsimp only [putT, List.toList_toArray, List.set_cons_zero, List.set_cons_succ]
    refine q_if1 120 5 (g := (x4 && (!(((!x11) || x19) || x26)))) (v := ?_) rfl rfl (by exact (want_at rfl rfl rfl).trans (ws_f x4 (((!x11) || x19) || x26))) ?_ ?_
    rotate_left
    · (intro hg A hA wS hS; (try rw [hg, sel_true] at hA); (try simp only [Bool.and_eq_true, Bool.not_eq_true', Bool.or_eq_false_iff] at hg); (obtain ⟨c0, c1, c2, b0, r0, r1, r2, r3, r4, r5⟩ := HK.out.keep hS); go_simp; (try with_reducible rfl))
    dsimp only [putT, List.toList_toArray, List.set_cons_zero, List.set_cons_succ]
    refine q_if1 121 120 (g := (x4 && (!(((!x11) || x19) || x26)))) (v := ?_) rfl rfl (by exact (want_at rfl rfl rfl).trans (ws_f x4 (((!x11) || x19) || x26))) ?_ ?_
    rotate_left
    · (intro hg A hA wS hS; (try rw [hg, sel_true] at hA); (try simp only [Bool.and_eq_true, Bool.not_eq_true', Bool.or_eq_false_iff] at hg); skip; go_simp; (try with_reducible rfl))
    dsimp only [putT, List.toList_toArray, List.set_cons_zero, List.set_cons_succ]
    refine q_if1 122 121 (g := (x4 && (!(((!x11) || x19) || x26)))) (v := ?_) rfl rfl (by exact (want_at rfl rfl rfl).trans (ws_f x4 (((!x11) || x19) || x26))) ?_ ?_
    rotate_left
    · (intro hg A hA wS hS; (try rw [hg, sel_true] at hA); (try simp only [Bool.and_eq_true, Bool.not_eq_true', Bool.or_eq_false_iff] at hg); skip; go_simp; (try with_reducible rfl))
    dsimp only [putT, List.toList_toArray, List.set_cons_zero, List.set_cons_succ]
    refine q_if1 123 122 (g := (x4 && (!(((!x11) || x19) || x26)))) (v := ?_) rfl rfl (by exact (want_at rfl rfl rfl).trans (ws_f x4 (((!x11) || x19) || x26))) ?_ ?_
    rotate_left
    · (intro hg A hA wS hS; (try rw [hg, sel_true] at hA); (try simp only [Bool.and_eq_true, Bool.not_eq_true', Bool.or_eq_false_iff] at hg); (obtain ⟨c0, c1, c2, b0, r0, r1, r2, r3, r4, r5⟩ := HK.out.keep hS); go_simp; (try with_reducible rfl))
    dsimp only [putT, List.toList_toArray, List.set_cons_zero, List.set_cons_succ]
    refine q_if1 124 5 (g := (x4 && (!(((!x11) || x19) || x26)))) (v := ?_) rfl rfl (by exact (want_at rfl rfl rfl).trans (ws_f x4 (((!x11) || x19) || x26))) ?_ ?_
    rotate_left
    · (intro hg A hA wS hS; (try rw [hg, sel_true] at hA); (try simp only [Bool.and_eq_true, Bool.not_eq_true', Bool.or_eq_false_iff] at hg); (obtain ⟨c0, c1, c2, b0, r0, r1, r2, r3, r4, r5⟩ := HK.out.keep hS); go_simp; (try with_reducible rfl))
    dsimp only [putT, List.toList_toArray, List.set_cons_zero, List.set_cons_succ]
    refine q_if1 125 124 (g := (x4 && (!(((!x11) || x19) || x26)))) (v := ?_) rfl rfl (by exact (want_at rfl rfl rfl).trans (ws_f x4 (((!x11) || x19) || x26))) ?_ ?_
    rotate_left
    · (intro hg A hA wS hS; (try rw [hg, sel_true] at hA); (try simp only [Bool.and_eq_true, Bool.not_eq_true', Bool.or_eq_false_iff] at hg); skip; go_simp; (try with_reducible rfl))
    dsimp only [putT, List.toList_toArray, List.set_cons_zero, List.set_cons_succ]
    refine q_if1 126 125 (g := (x4 && (!(((!x11) || x19) || x26)))) (v := ?_) rfl rfl (by exact (want_at rfl rfl rfl).trans (ws_f x4 (((!x11) || x19) || x26))) ?_ ?_
    rotate_left
    · (intro hg A hA wS hS; (try rw [hg, sel_true] at hA); (try simp only [Bool.and_eq_true, Bool.not_eq_true', Bool.or_eq_false_iff] at hg); skip; go_simp; (try with_reducible rfl))
    dsimp only [putT, List.toList_toArray, List.set_cons_zero, List.set_cons_succ]
    refine q_if1 127 126 (g := (x4 && (!(((!x11) || x19) || x26)))) (v := ?_) rfl rfl (by exact (want_at rfl rfl rfl).trans (ws_f x4 (((!x11) || x19) || x26))) ?_ ?_
    rotate_left
    · (intro hg A hA wS hS; (try rw [hg, sel_true] at hA); (try simp only [Bool.and_eq_true, Bool.not_eq_true', Bool.or_eq_false_iff] at hg); (obtain ⟨c0, c1, c2, b0, r0, r1, r2, r3, r4, r5⟩ := HK.out.keep hS); go_simp; (try with_reducible rfl))
    dsimp only [putT, List.toList_toArray, List.set_cons_zero, List.set_cons_succ]
    refine q_if1 128 127 (g := (x4 && (!(((!x11) || x19) || x26)))) (v := ?_) rfl rfl (by exact (want_at rfl rfl rfl).trans (ws_f x4 (((!x11) || x19) || x26))) ?_ ?_
    rotate_left
    · (intro hg A hA wS hS; (try rw [hg, sel_true] at hA); (try simp only [Bool.and_eq_true, Bool.not_eq_true', Bool.or_eq_false_iff] at hg); (have hwn : IntKind.i64.wrap (y.nx - 1) = y.nx - 1 := IntWalk.i64_in _ (by have := HB1.out; rw [← hx26] at hg; simp only [decide_eq_false_iff_not] at hg; omega)); go_simp; (try with_reducible rfl))
    dsimp only [putT, List.toList_toArray, List.set_cons_zero, List.set_cons_succ]
    refine q_if2 129 123 128 (g := (x4 && (!(((!x11) || x19) || x26)))) (v := ?_) rfl rfl rfl (by exact (want_at rfl rfl rfl).trans (ws_f x4 (((!x11) || x19) || x26))) ?_ ?_
    rotate_left
    · (intro hg A hA hA2 wS hS; (try rw [hg, sel_true] at hA); (try rw [hg, sel_true] at hA2); (try simp only [Bool.and_eq_true, Bool.not_eq_true', Bool.or_eq_false_iff] at hg); skip; go_simp; (try with_reducible rfl))
    dsimp only [putT, List.toList_toArray, List.set_cons_zero, List.set_cons_succ]
    refine q_pickG 130 119 129 (g := x4) (v := .bool ((((!x11) || x19) || x26) || x38)) rfl rfl rfl rfl (by exact (want_at rfl rfl rfl).trans (wb_t x4)) (fun hg => pk_gor x4 (((!x11) || x19) || x26) x38 hg) ?_
    dsimp only [putT, List.toList_toArray, List.set_cons_zero, List.set_cons_succ]
    refine q_pickA 131 96 130 (v := .bool (x4 && ((((!x11) || x19) || x26) || x38))) rfl rfl rfl rfl rfl (pk_and x4 ((((!x11) || x19) || x26) || x38)) ?_
    dsimp only [putT, List.toList_toArray, List.set_cons_zero, List.set_cons_succ]
    refine q_move 90 131 rfl (by first | exact Or.inl rfl | exact Or.inr rfl) rfl rfl ?_
    dsimp only [putT, List.toList_toArray, List.set_cons_zero, List.set_cons_succ]
    refine wpQuiet_nil ?_
    intro wS hS
    go_wp2_with fail
    go_meet
    refine ⟨congrArg Value.bool ?_, hS⟩
    rw [← hx4, ← hx11, ← hx19, ← hx26, ← hx38]
    apply Bool.eq_iff_iff.2
    simp only [Bool.or_eq_true, Bool.and_eq_true, decide_eq_true_eq, beq_iff_eq, bne_iff_ne, Bool.not_eq_true', decide_eq_false_iff_not]
    generalize isN X y.tt = A
    constructor
    · rintro ⟨h1, ((h2 | h2) | h2) | h2⟩
      · exact ⟨h1, .inl h2⟩
      · exact ⟨h1, .inr (.inl h2)⟩
      · exact ⟨h1, .inr (.inr (.inl h2))⟩
      · exact ⟨h1, .inr (.inr (.inr h2))⟩
    · rintro ⟨h1, h2 | h2 | h2 | h2⟩
      · exact ⟨h1, .inl (.inl (.inl h2))⟩
      · exact ⟨h1, .inl (.inl (.inr h2))⟩
      · exact ⟨h1, .inl (.inr h2)⟩
      · exact ⟨h1, .inr h2⟩
  case rest =>
  obtain ⟨hcc, hbx⟩ := hcut
  rename World => wx
  have HK := Lib.hid (HK.out.keep hbx)
  have HH := Lib.hid (HH.out.keep hbx)
  have HTK := Lib.hid (HTK.out.keep hbx)
  have HKP := Lib.hid (HKP.out.keep hbx)
  have hB := Below.next hB hbx
  clear hbx
  by_cases hbad : y.st = 2 ∧ (¬ isN X y.tt ∨ y.tt = n ∨ y.nx < 1 ∨ y.of ≠ y.nx - 1)
  · rw [yb hbad] at hcc
    subst hcc
    obtain rfl : r = false := by rw [← HR.out]; exact nb (fun hg => hg.2.2.1 hbad)
    go_wp2_with fail
    go_ret
    exact ⟨rfl, hB⟩
  rw [nb hbad] at hcc
  subst hcc
  have HB3 := Lib.hid hbad
  clear hbad
  go_upto_region 11 with fail
  obtain ⟨ww, hww⟩ : ∃ ww, ww = wx := ⟨_, rfl⟩
  rw [← hww] at HK HH HTK HKP hB ⊢
  clear hww wx
  go_cut [132] (fun c wx => c = .bool (decide (¬ (asc tks ∧ asc kps))) ∧ Below ww.heap.size ww wx)
  case first =>
   as_aux_lemma =>
    obtain ⟨c0, c1, c2, b0, r0, r1, r2, r3, r4, r5⟩ := HK.out
    clear HR
    by_cases k1 : asc tks
    · have P1 := ascends_any y.tv tks ww HTK.out
      rw [yb k1] at P1
      have HP1 := Lib.hid P1
      clear P1
      by_cases k2 : asc kps
      · go_wp2_with fail
        refine HP1.out.mono ?_
        rintro e w1 ⟨rfl, hb1⟩
        obtain ⟨c0, c1, c2, b0, r0, r1, r2, r3, r4, r5⟩ := HK.out.keep hb1
        have P2 := ascends_any y.kv kps w1 (HKP.out.keep hb1)
        rw [yb k2] at P2
        have HP2 := Lib.hid P2
        clear P2
        go_wp2_with fail
        refine HP2.out.mono ?_
        rintro e w2 ⟨rfl, hb2⟩
        go_wp2_with fail
        go_meet
        exact ⟨congrArg Value.bool (nb (fun h => h ⟨k1, k2⟩)).symm, Below.next hb1 hb2⟩
      · go_wp2_with fail
        refine HP1.out.mono ?_
        rintro e w1 ⟨rfl, hb1⟩
        obtain ⟨c0, c1, c2, b0, r0, r1, r2, r3, r4, r5⟩ := HK.out.keep hb1
        have P2 := ascends_any y.kv kps w1 (HKP.out.keep hb1)
        rw [nb k2] at P2
        have HP2 := Lib.hid P2
        clear P2
        go_wp2_with fail
        refine HP2.out.mono ?_
        rintro e w2 ⟨rfl, hb2⟩
        go_wp2_with fail
        go_meet
        exact ⟨congrArg Value.bool (yb (show ¬ _ from fun h => k2 h.2)).symm, Below.next hb1 hb2⟩
    · have P1 := ascends_any y.tv tks ww HTK.out
      rw [nb k1] at P1
      have HP1 := Lib.hid P1
      clear P1
      go_wp2_with fail
      refine HP1.out.mono ?_
      rintro e w1 ⟨rfl, hb1⟩
      go_wp2_with fail
      go_meet
      exact ⟨congrArg Value.bool (yb (show ¬ _ from fun h => k1 h.1)).symm, hb1⟩
  case rest =>
  obtain ⟨hcc, hbx⟩ := hcut
  rename World => wx
  have HK := Lib.hid (HK.out.keep hbx)
  have HH := Lib.hid (HH.out.keep hbx)
  have HTK := Lib.hid (HTK.out.keep hbx)
  have HKP := Lib.hid (HKP.out.keep hbx)
  have hB := Below.next hB hbx
  clear hbx
  by_cases hbad : ¬ (asc tks ∧ asc kps)
  · rw [yb hbad] at hcc
    subst hcc
    obtain rfl : r = false := by rw [← HR.out]; exact nb (fun hg => hbad hg.2.2.2.1)
    go_wp2_with fail
    go_ret
    exact ⟨rfl, hB⟩
  rw [nb hbad] at hcc
  subst hcc
  have hbad := Classical.not_not.1 hbad
  have HB4 := Lib.hid hbad
  clear hbad
  go_upto_region 15 with fail
  obtain ⟨c0, c1, c2, b0, r0, r1, r2, r3, r4, r5⟩ := HK.out
  have PW := fun (t : Tg) (wr : World) (hb : Below wx.heap.size wx wr) => wrong_any wr w.heap.size (w.heap.size + 1) p T _ fv q X n t (HH.out.keep hb) (cell_later hb c0) (cell_later hb c1)
  cases hw1 : tks.any (fun t => !decide (tagOK X t n))
  · have HW := Lib.hid (wrong_has y.tv tks (fun t => !decide (tagOK X t n)) w.heap.size (w.heap.size + 1) wx HTK.out PW _ hw1)
    have HW1 := Lib.hid hw1
    clear PW hw1
    cases hl1 : kps.any (fun t => !decide (t ∈ tks))
    · obtain rfl : r = true := by rw [← HR.out]; exact yb ⟨HB1.out, HB2.out, HB3.out, HB4.out, HW1.out, hl1⟩
      have HL1 := Lib.hid hl1
      clear hl1
      go_wp2_with fail
      refine HW.out.mono ?_
      rintro e w1 ⟨rfl, hb1⟩
      have hB1 := Below.next hB hb1
      obtain ⟨c0, c1, c2, b0, r0, r1, r2, r3, r4, r5⟩ := HK.out.keep hb1
      have HL := Lib.hid (lacks_has y.kv kps (fun t => !decide (t ∈ tks)) (w.heap.size + 2) w1 (HKP.out.keep hb1) (fun t wr hb => lacks_any wr (w.heap.size + 2) g o y tks t (cell_later hb c2) (cell_later hb r4) (HTK.out.keep (Below.next hb1 hb))) _ HL1.out)
      clear hb1
      go_wp2_with fail
      refine HL.out.mono ?_
      rintro e w2 ⟨rfl, hb2⟩
      have hB2 := Below.next hB1 hb2
      go_wp2_with fail
      go_ret
      exact ⟨rfl, hB2⟩
    · obtain rfl : r = false := by rw [← HR.out]; exact nb (fun hg => by exact absurd (hl1.symm.trans hg.2.2.2.2.2) (by decide))
      have HL1 := Lib.hid hl1
      clear hl1
      go_wp2_with fail
      refine HW.out.mono ?_
      rintro e w1 ⟨rfl, hb1⟩
      have hB1 := Below.next hB hb1
      obtain ⟨c0, c1, c2, b0, r0, r1, r2, r3, r4, r5⟩ := HK.out.keep hb1
      have HL := Lib.hid (lacks_has y.kv kps (fun t => !decide (t ∈ tks)) (w.heap.size + 2) w1 (HKP.out.keep hb1) (fun t wr hb => lacks_any wr (w.heap.size + 2) g o y tks t (cell_later hb c2) (cell_later hb r4) (HTK.out.keep (Below.next hb1 hb))) _ HL1.out)
      clear hb1
      go_wp2_with fail
      refine HL.out.mono ?_
      rintro e w2 ⟨rfl, hb2⟩
      have hB2 := Below.next hB1 hb2
      go_wp2_with fail
      go_ret
      exact ⟨rfl, hB2⟩
  · have HW := Lib.hid (wrong_has y.tv tks (fun t => !decide (tagOK X t n)) w.heap.size (w.heap.size + 1) wx HTK.out PW _ hw1)
    obtain rfl : r = false := by rw [← HR.out]; exact nb (fun hg => by exact absurd (hw1.symm.trans hg.2.2.2.2.1) (by decide))
    clear PW hw1
    go_wp2_with fail
    refine HW.out.mono ?_
    rintro e w1 ⟨rfl, hb1⟩
    have hB1 := Below.next hB hb1
    go_wp2_with fail
    go_ret
    exact ⟨rfl, hB1⟩
end Go.Proofs.Ytnkpjfogjkjcfaa
