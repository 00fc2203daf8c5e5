


/- Custody: which copies are valid: the reference. -/
import Derived.Test.YtnkpjfogjkjcfaaE
namespace Go.Proofs.Ytnkpjfogjkjcfaa
open Go.RowKit
set_option linter.unusedSimpArgs false
set_option linter.unusedVariables false
set_option maxRecDepth 100000

/-- what lies where while the reference looks at a copy -/
def CL (w : World) (B : Nat) (ds : Int) (cv fv : Value) (y : Cq) : Prop :=
  w.cell? ⟨B, 0, none⟩ = some (.int .i64 ds) ∧ w.cell? ⟨B, 1, none⟩ = some cv ∧ w.cell? ⟨B, 2, none⟩ = some fv ∧ CA w (B + 1) 0 y
theorem CL.keep {W w1 : World} {B : Nat} {ds : Int} {cv fv : Value} {y : Cq} (hb : Below W.heap.size W w1) (h : CL W B ds cv fv y) : CL w1 B ds cv fv y :=
  ⟨cell_later hb h.1, cell_later hb h.2.1, cell_later hb h.2.2.1, h.2.2.2.keep hb⟩
def bad2 (X : Wd) (n : Int) (y : Cq) : Prop := (n = X.ds ∧ y.st ≠ 0 ∧ y.st ≠ 4) ∨ (n ≠ X.ds ∧ (y.st < 0 ∨ 3 < y.st)) ∨ y.nx < 0 ∨ 1099511627776 < y.nx
instance (X : Wd) (n : Int) (y : Cq) : Decidable (bad2 X n y) := by unfold bad2; infer_instance
def bad4 (X : Wd) (n : Int) (y : Cq) : Prop := (y.st = 2 ∧ (¬ isN X y.tt ∨ y.tt = n ∨ y.of ≠ y.nx - 1 ∨ y.of < 0)) ∨ (y.st ≠ 2 ∧ (y.tt ≠ 0 ∨ y.of ≠ 0))
instance (X : Wd) (n : Int) (y : Cq) : Decidable (bad4 X n y) := by unfold bad4; infer_instance
def okT (X : Wd) (n : Int) (l : List Tg) (j : Nat) : Prop := (gt l j).nd ≠ n ∧ madeP X (gt l j).nd (gt l j).of ∧ (0 < j → ltG (gt l (j - 1)) (gt l j))
def okK (l k : List Tg) (j : Nat) : Prop := gt k j ∈ l ∧ (0 < j → ltG (gt k (j - 1)) (gt k j))
def rcOK (X : Wd) (n : Int) (y : Cq) (tks kps : List Tg) : Prop := ¬ bad2 X n y ∧ ¬ bad4 X n y ∧ (∀ j, j < tks.length → okT X n tks j) ∧ (∀ j, j < kps.length → okK tks kps j)
theorem rcOK_iff {X : Wd} {n : Int} {y : Cq} {c : Cp} (e1 : y.st = c.st) (e2 : y.tt = c.tt) (e3 : y.of = c.of) (e4 : y.nx = c.nx) : copOK X n c ↔ rcOK X n y c.tk c.kp := by
  have a1 : (∀ j, j < c.tk.length → okT X n c.tk j) ↔ asc c.tk ∧ ∀ t, t ∈ c.tk → tagOK X t n := by
    constructor
    · intro h
      refine ⟨fun i h0 hi => (h i hi).2.2 h0, fun t ht => ?_⟩
      obtain ⟨k, hk, rfl⟩ := mem_gt.1 ht
      exact (tagOK_made X _ n).2 ⟨(h k hk).1, (h k hk).2.1⟩
    · rintro ⟨h1, h2⟩ j hj
      have := (tagOK_made X _ n).1 (h2 _ (gt_mem hj))
      exact ⟨this.1, this.2, fun h0 => h1 j h0 hj⟩
  have a2 : (∀ j, j < c.kp.length → okK c.tk c.kp j) ↔ asc c.kp ∧ ∀ t, t ∈ c.kp → t ∈ c.tk := by
    constructor
    · intro h
      refine ⟨fun i h0 hi => (h i hi).2 h0, fun t ht => ?_⟩
      obtain ⟨k, hk, rfl⟩ := mem_gt.1 ht
      exact (h k hk).1
    · rintro ⟨h1, h2⟩ j hj
      exact ⟨h2 _ (gt_mem hj), fun h0 => h1 j h0 hj⟩
  unfold rcOK
  rw [a1, a2]
  unfold copOK stOK ofOK bad2 bad4
  rw [e1, e2, e3, e4]
  generalize (∀ t, t ∈ c.tk → tagOK X t n) = P1
  generalize (∀ t, t ∈ c.kp → t ∈ c.tk) = P2
  generalize asc c.tk = P3
  generalize asc c.kp = P4
  generalize isN X c.tt = P5
  constructor
  · rintro ⟨⟨h1, h2, h3, h4⟩, ⟨h5, h6⟩, h7, h8, h9, h10⟩
    refine ⟨?_, ?_, ⟨h7, h9⟩, h8, h10⟩
    · by_cases hd : n = X.ds
      · have := h3 hd; omega
      · rw [if_neg hd] at h2; omega
    · rintro (⟨k1, k2⟩ | ⟨k1, k2⟩)
      · obtain ⟨m1, m2, m3, m4⟩ := h6 k1
        rcases k2 with k2 | k2 | k2 | k2
        · exact k2 m1
        · exact m2 k2
        · exact k2 m4
        · omega
      · have := h5 k1; omega
  · rintro ⟨h1, h2, ⟨h7, h9⟩, h8, h10⟩
    refine ⟨⟨by omega, ?_, fun _ => by omega, by omega⟩, ⟨fun k => by omega, fun k => ⟨?_, ?_, ?_, ?_⟩⟩, h7, h8, h9, h10⟩
    · by_cases hd : n = X.ds
      · rw [if_pos hd]; omega
      · rw [if_neg hd]; omega
    · exact Classical.not_not.1 (fun m => h2 (.inl ⟨k, .inl m⟩))
    · exact fun m => h2 (.inl ⟨k, .inr (.inl m)⟩)
    · omega
    · omega
open Classical in
theorem okT_b {X : Wd} {n : Int} {l : List Tg} {k : Nat} {t u : Tg} (ht : gt l k = t) (hu : gt l (k - 1) = u) : (((t.nd == n) || (!decide (madeP X t.nd t.of))) || (decide (0 < k) && (!decide (ltG u t)))) = !decide (okT X n l k) := by
  unfold okT
  rw [ht, hu]
  by_cases h1 : t.nd = n <;> by_cases h2 : madeP X t.nd t.of <;> by_cases h3 : 0 < k <;> by_cases h4 : ltG u t <;> simp [h1, h2, h3, h4]
open Classical in
theorem okK_b {l kk : List Tg} {k : Nat} {t u : Tg} (ht : gt kk k = t) (hu : gt kk (k - 1) = u) : ((!decide (t ∈ l)) || (decide (0 < k) && (!decide (ltG u t)))) = !decide (okK l kk k) := by
  unfold okK
  rw [ht, hu]
  by_cases h2 : t ∈ l <;> by_cases h3 : 0 < k <;> by_cases h4 : ltG u t <;> simp [h2, h3, h4]
set_option maxHeartbeats 8000000 in
open Classical in
theorem rcopied_any (w : World) (cv fv : Value) (q : List Cq) (X : Wd) (i : Nat) (hi : i < X.cs.length) (h : PtW w cv fv q X) :
    Calls Try.prog 50 #[wV X cv fv, .int .i64 ((i : Int) + 1)] w fun e w' => e = .returned (.bool (decide (copOK X ((i : Int) + 1) (gc X.cs i)))) ∧ Below w.heap.size w w' := by
  obtain ⟨n, hn⟩ : ∃ n : Int, (i : Int) + 1 = n := ⟨_, rfl⟩
  rw [hn]
  have hnN : isN X n := by unfold isN; omega
  obtain ⟨g, o0, c0, rfl⟩ := h.addr hnN
  obtain ⟨fa, fc, rfl⟩ := h.frs.form
  obtain ⟨r, hr⟩ : ∃ r, decide (copOK X n (gc X.cs i)) = r := ⟨_, rfl⟩
  rw [hr]
  obtain ⟨y, HY⟩ : ∃ y, Hid (gq q i = y) := ⟨_, rfl⟩
  have hcop := h.cop i
  rw [HY.out] at hcop
  have hmx := h.rows.2.1
  rw [h.len] at hmx
  unfold maxLen at hmx
  obtain ⟨W, hW⟩ : ∃ W : World, W = (w.alloc (.cells #[.int .i64 X.ds, .slice (some ⟨g, o0, none⟩) X.cs.length c0, .slice fa X.fr.length fc] 25)).alloc (.cells #[.int .i64 y.st, .int .i64 y.tt, .int .i64 y.of, .int .i64 y.nx, y.tv, y.kv] 45) := ⟨_, rfl⟩
  have hB : Below w.heap.size w W := by rw [hW]; exact (by repeat (first | assumption | exact Below.refl _ _ | apply Below.al | apply below_drewN | apply Below.drew | refine Below.next ?_ (by assumption)))
  have hh := h.keep hB
  have e0 : BoxN (w.alloc (.cells #[.int .i64 X.ds, .slice (some ⟨g, o0, none⟩) X.cs.length c0, .slice fa X.fr.length fc] 25)) w.heap.size 25 #[.int .i64 X.ds, .slice (some ⟨g, o0, none⟩) X.cs.length c0, .slice fa X.fr.length fc] := BoxN.new w _ _
  have hk : CL W w.heap.size X.ds (.slice (some ⟨g, o0, none⟩) X.cs.length c0) (.slice fa X.fr.length fc) y := by
    have e1 : BoxN W w.heap.size 25 #[.int .i64 X.ds, .slice (some ⟨g, o0, none⟩) X.cs.length c0, .slice fa X.fr.length fc] := by rw [hW]; exact e0.below (by repeat (first | assumption | exact Below.refl _ _ | apply Below.al | apply below_drewN | apply Below.drew | refine Below.next ?_ (by assumption)))
    have e2 : BoxN W (w.heap.size + 1) 45 #[.int .i64 y.st, .int .i64 y.tt, .int .i64 y.of, .int .i64 y.nx, y.tv, y.kv] := by
      rw [hW]
      have := BoxN.new (w.alloc (.cells #[.int .i64 X.ds, .slice (some ⟨g, o0, none⟩) X.cs.length c0, .slice fa X.fr.length fc] 25)) 45 #[.int .i64 y.st, .int .i64 y.tt, .int .i64 y.of, .int .i64 y.nx, y.tv, y.kv]
      simpa using this
    exact ⟨e1.cell 0, e1.cell 1, e1.cell 2, e2.cell 0, e2.cell 1, e2.cell 2, e2.cell 3, e2.cell 4, e2.cell 5⟩
  have HK := Lib.hid hk
  have HH := Lib.hid hh
  have hgood := rcOK_iff (X := X) (n := n) hcop.st hcop.tt hcop.of hcop.nx
  obtain ⟨tks, hT⟩ : ∃ l, (gc X.cs i).tk = l := ⟨_, rfl⟩
  obtain ⟨kps, hKp⟩ : ∃ l, (gc X.cs i).kp = l := ⟨_, rfl⟩
  rw [hT, hKp] at hgood
  have hr2 : decide (rcOK X n y tks kps) = r := by rw [← hr]; exact decide_eq_decide.2 hgood.symm
  have HR := Lib.hid hr2
  have htk : RdG W y.tv tks := by rw [← hT]; exact hcop.tk.keep hB
  have hkp : RdG W y.kv kps := by rw [← hKp]; exact hcop.kp.keep hB
  have hta : y.tn = tks.length := by obtain ⟨a, c, he⟩ := htk.form; simp only [Value.slice.injEq] at he; exact he.2.1
  have hka : y.kn = kps.length := by obtain ⟨a, c, he⟩ := hkp.form; simp only [Value.slice.injEq] at he; exact he.2.1
  have HTA := Lib.hid hta
  have HKA := Lib.hid hka
  clear hta hka
  have htm := htk.2.1
  have hkm := hkp.2.1
  unfold maxLen at htm hkm
  have HTK := Lib.hid htk
  have HKP := Lib.hid hkp
  -- the walk's first steps
  have hrow0 : CA (w.alloc (.cells #[.int .i64 X.ds, .slice (some ⟨g, o0, none⟩) X.cs.length c0, .slice fa X.fr.length fc] 25)) g (o0 + i * 6) y := by
    have := PtW.node (w := w.alloc (.cells #[.int .i64 X.ds, .slice (some ⟨g, o0, none⟩) X.cs.length c0, .slice fa X.fr.length fc] 25)) (g := g) (o := o0) (c := c0) (h.keep (by repeat (first | assumption | exact Below.refl _ _ | apply Below.al | apply below_drewN | apply Below.drew | refine Below.next ?_ (by assumption)))) i hi
    rwa [HY.out] at this
  obtain ⟨g0, g1, g2, g3, g4, g5⟩ := hrow0
  have q0 : (w.alloc (.cells #[.int .i64 X.ds, .slice (some ⟨g, o0, none⟩) X.cs.length c0, .slice fa X.fr.length fc] 25)).cell? ⟨w.heap.size, 1, none⟩ = some (.slice (some ⟨g, o0, none⟩) X.cs.length c0) := e0.cell 1
  have i1 : (0 : Int) ≤ (i : Int) := by omega
  have i2 : (i : Int) < (X.cs.length : Int) := by omega
  have hwi : IntKind.i64.wrap (i : Int) = (i : Int) := IntWalk.i64_in _ (by omega)
  have hwn : IntKind.i64.wrap (n - 1) = (i : Int) := by rw [show n - 1 = (i : Int) by omega]; exact hwi
  clear hr2 hgood hT hKp hr hcop hh hk h htk hkp hn HY e0
  go_enter Try.func50, Try.ntmps50
  go_upto_region 2 with fail
  rw [← hW]
  clear hW q0 g0 g1 g2 g3 g4 g5 i1 i2 hwi hwn
  obtain ⟨ww, hww⟩ : ∃ ww, ww = W := ⟨_, rfl⟩
  rw [← hww] at HK HH HTK HKP hB ⊢
  clear hww W
  go_cut [54] (fun c wx => c = .bool (decide (bad2 X n y)) ∧ Below ww.heap.size ww wx)
  case first =>
   as_aux_lemma =>
    clear HR
    obtain ⟨x3, hx3⟩ : ∃ b, (n == X.ds) = b := ⟨_, rfl⟩
    obtain ⟨x7, hx7⟩ : ∃ b, (y.st != 0) = b := ⟨_, rfl⟩
    obtain ⟨x12, hx12⟩ : ∃ b, (y.st != 4) = b := ⟨_, rfl⟩
    obtain ⟨x18, hx18⟩ : ∃ b, (n != X.ds) = b := ⟨_, rfl⟩
    obtain ⟨x22, hx22⟩ : ∃ b, (decide (y.st < 0)) = b := ⟨_, rfl⟩
    obtain ⟨x26, hx26⟩ : ∃ b, (decide (3 < y.st)) = b := ⟨_, rfl⟩
    obtain ⟨x33, hx33⟩ : ∃ b, (decide (y.nx < 0)) = b := ⟨_, rfl⟩
    obtain ⟨x38, hx38⟩ : ∃ b, (decide (1099511627776 < y.nx)) = b := ⟨_, rfl⟩
    refine wp_region_symL (fun w' => Below ww.heap.size ww w') (Below.refl _ ww) ?_
    refine q_move 15 1 rfl (by first | exact Or.inl rfl | exact Or.inr rfl) rfl rfl ?_
    dsimp only [putT, List.toList_toArray, List.set_cons_zero, List.set_cons_succ]
    refine q_run1 16 2 (v := ?_) rfl rfl rfl ?_ ?_
    rotate_left
    · (intro A hA wS hS; skip; go_simp; (try with_reducible rfl))
    dsimp only [putT, List.toList_toArray, List.set_cons_zero, List.set_cons_succ]
    refine q_run1 17 16 (v := ?_) rfl rfl rfl ?_ ?_
    rotate_left
    · (intro A hA wS hS; (obtain ⟨s0, s1, s2, r0, r1, r2, r3, r4, r5⟩ := HK.out.keep hS); go_simp; (try with_reducible rfl))
    dsimp only [putT, List.toList_toArray, List.set_cons_zero, List.set_cons_succ]
    refine q_run2 18 15 17 (v := ?_) rfl rfl rfl rfl ?_ ?_
    rotate_left
    · (intro A hA hA2 wS hS; skip; go_simp; (try with_reducible rfl))
    dsimp only [putT, List.toList_toArray, List.set_cons_zero, List.set_cons_succ]
    refine q_move 19 18 rfl (by first | exact Or.inl rfl | exact Or.inr rfl) rfl rfl ?_
    dsimp only [putT, List.toList_toArray, List.set_cons_zero, List.set_cons_succ]
    refine q_if1 20 5 (g := x3) (v := ?_) rfl rfl (by exact (want_at rfl rfl rfl).trans (wb_t x3)) ?_ ?_
    rotate_left
    · (intro hg A hA wS hS; (try rw [hg, sel_true] at hA); (try simp only [Bool.and_eq_true, Bool.not_eq_true', Bool.or_eq_false_iff] at hg); skip; go_simp; (try with_reducible rfl))
    dsimp only [putT, List.toList_toArray, List.set_cons_zero, List.set_cons_succ]
    refine q_if1 21 20 (g := x3) (v := ?_) rfl rfl (by exact (want_at rfl rfl rfl).trans (wb_t x3)) ?_ ?_
    rotate_left
    · (intro hg A hA wS hS; (try rw [hg, sel_true] at hA); (try simp only [Bool.and_eq_true, Bool.not_eq_true', Bool.or_eq_false_iff] at hg); (obtain ⟨s0, s1, s2, r0, r1, r2, r3, r4, r5⟩ := HK.out.keep hS); go_simp; (try with_reducible rfl))
    dsimp only [putT, List.toList_toArray, List.set_cons_zero, List.set_cons_succ]
    refine q_if1 22 21 (g := x3) (v := ?_) rfl rfl (by exact (want_at rfl rfl rfl).trans (wb_t x3)) ?_ ?_
    rotate_left
    · (intro hg A hA wS hS; (try rw [hg, sel_true] at hA); (try simp only [Bool.and_eq_true, Bool.not_eq_true', Bool.or_eq_false_iff] at hg); skip; go_simp; (try with_reducible rfl))
    dsimp only [putT, List.toList_toArray, List.set_cons_zero, List.set_cons_succ]
    refine q_pickA 23 19 22 (v := .bool (x3 && x7)) rfl rfl rfl rfl rfl (pk_and x3 x7) ?_
    dsimp only [putT, List.toList_toArray, List.set_cons_zero, List.set_cons_succ]
    refine q_move 24 23 rfl (by first | exact Or.inl rfl | exact Or.inr rfl) rfl rfl ?_
    dsimp only [putT, List.toList_toArray, List.set_cons_zero, List.set_cons_succ]
    refine q_if1 25 5 (g := (x3 && x7)) (v := ?_) rfl rfl (by exact (want_at rfl rfl rfl).trans (wb_t (x3 && x7))) ?_ ?_
    rotate_left
    · (intro hg A hA wS hS; (try rw [hg, sel_true] at hA); (try simp only [Bool.and_eq_true, Bool.not_eq_true', Bool.or_eq_false_iff] at hg); skip; go_simp; (try with_reducible rfl))
    dsimp only [putT, List.toList_toArray, List.set_cons_zero, List.set_cons_succ]
    refine q_if1 26 25 (g := (x3 && x7)) (v := ?_) rfl rfl (by exact (want_at rfl rfl rfl).trans (wb_t (x3 && x7))) ?_ ?_
    rotate_left
    · (intro hg A hA wS hS; (try rw [hg, sel_true] at hA); (try simp only [Bool.and_eq_true, Bool.not_eq_true', Bool.or_eq_false_iff] at hg); (obtain ⟨s0, s1, s2, r0, r1, r2, r3, r4, r5⟩ := HK.out.keep hS); go_simp; (try with_reducible rfl))
    dsimp only [putT, List.toList_toArray, List.set_cons_zero, List.set_cons_succ]
    refine q_if1 27 26 (g := (x3 && x7)) (v := ?_) rfl rfl (by exact (want_at rfl rfl rfl).trans (wb_t (x3 && x7))) ?_ ?_
    rotate_left
    · (intro hg A hA wS hS; (try rw [hg, sel_true] at hA); (try simp only [Bool.and_eq_true, Bool.not_eq_true', Bool.or_eq_false_iff] at hg); skip; go_simp; (try with_reducible rfl))
    dsimp only [putT, List.toList_toArray, List.set_cons_zero, List.set_cons_succ]
    refine q_pickA 28 24 27 (v := .bool ((x3 && x7) && x12)) rfl rfl rfl rfl rfl (pk_and (x3 && x7) x12) ?_
    dsimp only [putT, List.toList_toArray, List.set_cons_zero, List.set_cons_succ]
    refine q_move 29 28 rfl (by first | exact Or.inl rfl | exact Or.inr rfl) rfl rfl ?_
    dsimp only [putT, List.toList_toArray, List.set_cons_zero, List.set_cons_succ]
    refine q_moveg 30 1 (g := (!((x3 && x7) && x12))) rfl rfl (by exact (want_at rfl rfl rfl).trans (wb_f ((x3 && x7) && x12))) (by first | exact Or.inr rfl | exact Or.inl rfl) ?_
    dsimp only [putT, List.toList_toArray, List.set_cons_zero, List.set_cons_succ]
    refine q_if1 31 2 (g := (!((x3 && x7) && x12))) (v := ?_) rfl rfl (by exact (want_at rfl rfl rfl).trans (wb_f ((x3 && x7) && x12))) ?_ ?_
    rotate_left
    · (intro hg A hA wS hS; (try rw [hg, sel_true] at hA); (try simp only [Bool.and_eq_true, Bool.not_eq_true', Bool.or_eq_false_iff] at hg); skip; go_simp; (try with_reducible rfl))
    dsimp only [putT, List.toList_toArray, List.set_cons_zero, List.set_cons_succ]
    refine q_if1 32 31 (g := (!((x3 && x7) && x12))) (v := ?_) rfl rfl (by exact (want_at rfl rfl rfl).trans (wb_f ((x3 && x7) && x12))) ?_ ?_
    rotate_left
    · (intro hg A hA wS hS; (try rw [hg, sel_true] at hA); (try simp only [Bool.and_eq_true, Bool.not_eq_true', Bool.or_eq_false_iff] at hg); (obtain ⟨s0, s1, s2, r0, r1, r2, r3, r4, r5⟩ := HK.out.keep hS); go_simp; (try with_reducible rfl))
    dsimp only [putT, List.toList_toArray, List.set_cons_zero, List.set_cons_succ]
    refine q_if2 33 30 32 (g := (!((x3 && x7) && x12))) (v := ?_) rfl rfl rfl (by exact (want_at rfl rfl rfl).trans (wb_f ((x3 && x7) && x12))) ?_ ?_
    rotate_left
    · (intro hg A hA hA2 wS hS; (try rw [hg, sel_true] at hA); (try rw [hg, sel_true] at hA2); (try simp only [Bool.and_eq_true, Bool.not_eq_true', Bool.or_eq_false_iff] at hg); skip; go_simp; (try with_reducible rfl))
    dsimp only [putT, List.toList_toArray, List.set_cons_zero, List.set_cons_succ]
    refine q_moveg 34 33 (g := (!((x3 && x7) && x12))) rfl rfl (by exact (want_at rfl rfl rfl).trans (wb_f ((x3 && x7) && x12))) (by first | exact Or.inr rfl | exact Or.inl rfl) ?_
    dsimp only [putT, List.toList_toArray, List.set_cons_zero, List.set_cons_succ]
    refine q_if1 35 5 (g := ((!((x3 && x7) && x12)) && x18)) (v := ?_) rfl rfl (by exact (want_at rfl rfl rfl).trans (ws_t (!((x3 && x7) && x12)) x18)) ?_ ?_
    rotate_left
    · (intro hg A hA wS hS; (try rw [hg, sel_true] at hA); (try simp only [Bool.and_eq_true, Bool.not_eq_true', Bool.or_eq_false_iff] at hg); skip; go_simp; (try with_reducible rfl))
    dsimp only [putT, List.toList_toArray, List.set_cons_zero, List.set_cons_succ]
    refine q_if1 36 35 (g := ((!((x3 && x7) && x12)) && x18)) (v := ?_) rfl rfl (by exact (want_at rfl rfl rfl).trans (ws_t (!((x3 && x7) && x12)) x18)) ?_ ?_
    rotate_left
    · (intro hg A hA wS hS; (try rw [hg, sel_true] at hA); (try simp only [Bool.and_eq_true, Bool.not_eq_true', Bool.or_eq_false_iff] at hg); (obtain ⟨s0, s1, s2, r0, r1, r2, r3, r4, r5⟩ := HK.out.keep hS); go_simp; (try with_reducible rfl))
    dsimp only [putT, List.toList_toArray, List.set_cons_zero, List.set_cons_succ]
    refine q_if1 37 36 (g := ((!((x3 && x7) && x12)) && x18)) (v := ?_) rfl rfl (by exact (want_at rfl rfl rfl).trans (ws_t (!((x3 && x7) && x12)) x18)) ?_ ?_
    rotate_left
    · (intro hg A hA wS hS; (try rw [hg, sel_true] at hA); (try simp only [Bool.and_eq_true, Bool.not_eq_true', Bool.or_eq_false_iff] at hg); skip; go_simp; (try with_reducible rfl))
    dsimp only [putT, List.toList_toArray, List.set_cons_zero, List.set_cons_succ]
    refine q_moveg 38 37 (g := ((!((x3 && x7) && x12)) && x18)) rfl rfl (by exact (want_at rfl rfl rfl).trans (ws_t (!((x3 && x7) && x12)) x18)) (by first | exact Or.inr rfl | exact Or.inl rfl) ?_
    dsimp only [putT, List.toList_toArray, List.set_cons_zero, List.set_cons_succ]
    refine q_if1 39 5 (g := (((!((x3 && x7) && x12)) && x18) && (!x22))) (v := ?_) rfl rfl (by exact (want_at rfl rfl rfl).trans (ws_f ((!((x3 && x7) && x12)) && x18) x22)) ?_ ?_
    rotate_left
    · (intro hg A hA wS hS; (try rw [hg, sel_true] at hA); (try simp only [Bool.and_eq_true, Bool.not_eq_true', Bool.or_eq_false_iff] at hg); skip; go_simp; (try with_reducible rfl))
    dsimp only [putT, List.toList_toArray, List.set_cons_zero, List.set_cons_succ]
    refine q_if1 40 39 (g := (((!((x3 && x7) && x12)) && x18) && (!x22))) (v := ?_) rfl rfl (by exact (want_at rfl rfl rfl).trans (ws_f ((!((x3 && x7) && x12)) && x18) x22)) ?_ ?_
    rotate_left
    · (intro hg A hA wS hS; (try rw [hg, sel_true] at hA); (try simp only [Bool.and_eq_true, Bool.not_eq_true', Bool.or_eq_false_iff] at hg); (obtain ⟨s0, s1, s2, r0, r1, r2, r3, r4, r5⟩ := HK.out.keep hS); go_simp; (try with_reducible rfl))
    dsimp only [putT, List.toList_toArray, List.set_cons_zero, List.set_cons_succ]
    refine q_if1 41 40 (g := (((!((x3 && x7) && x12)) && x18) && (!x22))) (v := ?_) rfl rfl (by exact (want_at rfl rfl rfl).trans (ws_f ((!((x3 && x7) && x12)) && x18) x22)) ?_ ?_
    rotate_left
    · (intro hg A hA wS hS; (try rw [hg, sel_true] at hA); (try simp only [Bool.and_eq_true, Bool.not_eq_true', Bool.or_eq_false_iff] at hg); skip; go_simp; (try with_reducible rfl))
    dsimp only [putT, List.toList_toArray, List.set_cons_zero, List.set_cons_succ]
    refine q_pickG 42 38 41 (g := ((!((x3 && x7) && x12)) && x18)) (v := .bool (x22 || x26)) rfl rfl rfl rfl (by exact (want_at rfl rfl rfl).trans (ws_t (!((x3 && x7) && x12)) x18)) (fun hg => pk_gor ((!((x3 && x7) && x12)) && x18) x22 x26 hg) ?_
    dsimp only [putT, List.toList_toArray, List.set_cons_zero, List.set_cons_succ]
    refine q_pickAG 43 34 42 (g := (!((x3 && x7) && x12))) (v := .bool (x18 && (x22 || x26))) rfl rfl rfl rfl (by exact (want_at rfl rfl rfl).trans (wb_f ((x3 && x7) && x12))) (fun hg => pk_gand (!((x3 && x7) && x12)) x18 (x22 || x26) hg) ?_
    dsimp only [putT, List.toList_toArray, List.set_cons_zero, List.set_cons_succ]
    refine q_pick 44 29 43 (v := .bool (((x3 && x7) && x12) || (x18 && (x22 || x26)))) rfl rfl rfl rfl rfl (pk_or ((x3 && x7) && x12) (x18 && (x22 || x26))) ?_
    dsimp only [putT, List.toList_toArray, List.set_cons_zero, List.set_cons_succ]
    refine q_move 45 44 rfl (by first | exact Or.inl rfl | exact Or.inr rfl) rfl rfl ?_
    dsimp only [putT, List.toList_toArray, List.set_cons_zero, List.set_cons_succ]
    refine q_if1 46 5 (g := (!(((x3 && x7) && x12) || (x18 && (x22 || x26))))) (v := ?_) rfl rfl (by exact (want_at rfl rfl rfl).trans (wb_f (((x3 && x7) && x12) || (x18 && (x22 || x26))))) ?_ ?_
    rotate_left
    · (intro hg A hA wS hS; (try rw [hg, sel_true] at hA); (try simp only [Bool.and_eq_true, Bool.not_eq_true', Bool.or_eq_false_iff] at hg); skip; go_simp; (try with_reducible rfl))
    dsimp only [putT, List.toList_toArray, List.set_cons_zero, List.set_cons_succ]
    refine q_if1 47 46 (g := (!(((x3 && x7) && x12) || (x18 && (x22 || x26))))) (v := ?_) rfl rfl (by exact (want_at rfl rfl rfl).trans (wb_f (((x3 && x7) && x12) || (x18 && (x22 || x26))))) ?_ ?_
    rotate_left
    · (intro hg A hA wS hS; (try rw [hg, sel_true] at hA); (try simp only [Bool.and_eq_true, Bool.not_eq_true', Bool.or_eq_false_iff] at hg); (obtain ⟨s0, s1, s2, r0, r1, r2, r3, r4, r5⟩ := HK.out.keep hS); go_simp; (try with_reducible rfl))
    dsimp only [putT, List.toList_toArray, List.set_cons_zero, List.set_cons_succ]
    refine q_if1 48 47 (g := (!(((x3 && x7) && x12) || (x18 && (x22 || x26))))) (v := ?_) rfl rfl (by exact (want_at rfl rfl rfl).trans (wb_f (((x3 && x7) && x12) || (x18 && (x22 || x26))))) ?_ ?_
    rotate_left
    · (intro hg A hA wS hS; (try rw [hg, sel_true] at hA); (try simp only [Bool.and_eq_true, Bool.not_eq_true', Bool.or_eq_false_iff] at hg); skip; go_simp; (try with_reducible rfl))
    dsimp only [putT, List.toList_toArray, List.set_cons_zero, List.set_cons_succ]
    refine q_pick 49 45 48 (v := .bool ((((x3 && x7) && x12) || (x18 && (x22 || x26))) || x33)) rfl rfl rfl rfl rfl (pk_or (((x3 && x7) && x12) || (x18 && (x22 || x26))) x33) ?_
    dsimp only [putT, List.toList_toArray, List.set_cons_zero, List.set_cons_succ]
    refine q_move 50 49 rfl (by first | exact Or.inl rfl | exact Or.inr rfl) rfl rfl ?_
    dsimp only [putT, List.toList_toArray, List.set_cons_zero, List.set_cons_succ]
    refine q_if1 51 5 (g := (!((((x3 && x7) && x12) || (x18 && (x22 || x26))) || x33))) (v := ?_) rfl rfl (by exact (want_at rfl rfl rfl).trans (wb_f ((((x3 && x7) && x12) || (x18 && (x22 || x26))) || x33))) ?_ ?_
    rotate_left
    · (intro hg A hA wS hS; (try rw [hg, sel_true] at hA); (try simp only [Bool.and_eq_true, Bool.not_eq_true', Bool.or_eq_false_iff] at hg); skip; go_simp; (try with_reducible rfl))
    dsimp only [putT, List.toList_toArray, List.set_cons_zero, List.set_cons_succ]
    refine q_if1 52 51 (g := (!((((x3 && x7) && x12) || (x18 && (x22 || x26))) || x33))) (v := ?_) rfl rfl (by exact (want_at rfl rfl rfl).trans (wb_f ((((x3 && x7) && x12) || (x18 && (x22 || x26))) || x33))) ?_ ?_
    rotate_left
    · (intro hg A hA wS hS; (try rw [hg, sel_true] at hA); (try simp only [Bool.and_eq_true, Bool.not_eq_true', Bool.or_eq_false_iff] at hg); (obtain ⟨s0, s1, s2, r0, r1, r2, r3, r4, r5⟩ := HK.out.keep hS); go_simp; (try with_reducible rfl))
    dsimp only [putT, List.toList_toArray, List.set_cons_zero, List.set_cons_succ]
    refine q_if1 53 52 (g := (!((((x3 && x7) && x12) || (x18 && (x22 || x26))) || x33))) (v := ?_) rfl rfl (by exact (want_at rfl rfl rfl).trans (wb_f ((((x3 && x7) && x12) || (x18 && (x22 || x26))) || x33))) ?_ ?_
    rotate_left
    · (intro hg A hA wS hS; (try rw [hg, sel_true] at hA); (try simp only [Bool.and_eq_true, Bool.not_eq_true', Bool.or_eq_false_iff] at hg); skip; go_simp; (try with_reducible rfl))
    dsimp only [putT, List.toList_toArray, List.set_cons_zero, List.set_cons_succ]
    refine q_pick 54 50 53 (v := .bool (((((x3 && x7) && x12) || (x18 && (x22 || x26))) || x33) || x38)) rfl rfl rfl rfl rfl (pk_or ((((x3 && x7) && x12) || (x18 && (x22 || x26))) || x33) x38) ?_
    dsimp only [putT, List.toList_toArray, List.set_cons_zero, List.set_cons_succ]
    refine wpQuiet_nil ?_
    intro wS hS
    go_wp2_with fail
    go_meet
    refine ⟨congrArg Value.bool ?_, hS⟩
    rw [← hx3, ← hx7, ← hx12, ← hx18, ← hx22, ← hx26, ← hx33, ← hx38]
    apply Bool.eq_iff_iff.2
    simp only [Bool.or_eq_true, Bool.and_eq_true, decide_eq_true_eq, beq_iff_eq, bne_iff_ne]
    unfold bad2
    omega
  case rest =>
  obtain ⟨hcc, hbx⟩ := hcut
  rename World => wx
  have HK := Lib.hid (HK.out.keep hbx)
  have HH := Lib.hid (HH.out.keep hbx)
  have HTK := Lib.hid (HTK.out.keep hbx)
  have HKP := Lib.hid (HKP.out.keep hbx)
  have hB := Below.next hB hbx
  clear hbx
  by_cases hbad : bad2 X n y
  · rw [yb hbad] at hcc
    subst hcc
    obtain rfl : r = false := by rw [← HR.out]; exact nb (fun hg => hg.1 hbad)
    go_wp2_with fail
    go_ret
    exact ⟨rfl, hB⟩
  rw [nb hbad] at hcc
  subst hcc
  have HB1 := Lib.hid hbad
  clear hbad
  go_upto_region 4 with fail
  obtain ⟨ww, hww⟩ : ∃ ww, ww = wx := ⟨_, rfl⟩
  rw [← hww] at HK HH HTK HKP hB ⊢
  clear hww wx
  go_cut [98] (fun c wx => c = .bool (decide (bad4 X n y)) ∧ Below ww.heap.size ww wx)
  case first =>
   as_aux_lemma =>
    clear HR
    have hwn : IntKind.i64.wrap (y.nx - 1) = y.nx - 1 := IntWalk.i64_in _ (by have := HB1.out; unfold bad2 at this; omega)
    obtain ⟨x2, hx2⟩ : ∃ b, (y.st == 2) = b := ⟨_, rfl⟩
    obtain ⟨x7, hx7⟩ : ∃ b, (decide (isN X y.tt)) = b := ⟨_, rfl⟩
    obtain ⟨x13, hx13⟩ : ∃ b, (y.tt == n) = b := ⟨_, rfl⟩
    obtain ⟨x21, hx21⟩ : ∃ b, (y.of != y.nx - 1) = b := ⟨_, rfl⟩
    obtain ⟨x26, hx26⟩ : ∃ b, (decide (y.of < 0)) = b := ⟨_, rfl⟩
    obtain ⟨x32, hx32⟩ : ∃ b, (y.st != 2) = b := ⟨_, rfl⟩
    obtain ⟨x36, hx36⟩ : ∃ b, (y.tt != 0) = b := ⟨_, rfl⟩
    obtain ⟨x40, hx40⟩ : ∃ b, (y.of != 0) = b := ⟨_, rfl⟩
    refine wp_region_symL (fun w' => Below ww.heap.size ww w') (Below.refl _ ww) ?_
    refine q_run1 55 5 (v := ?_) rfl rfl rfl ?_ ?_
    rotate_left
    · (intro A hA wS hS; skip; go_simp; (try with_reducible rfl))
    dsimp only [putT, List.toList_toArray, List.set_cons_zero, List.set_cons_succ]
    refine q_run1 56 55 (v := ?_) rfl rfl rfl ?_ ?_
    rotate_left
    · (intro A hA wS hS; (obtain ⟨s0, s1, s2, r0, r1, r2, r3, r4, r5⟩ := HK.out.keep hS); go_simp; (try with_reducible rfl))
    dsimp only [putT, List.toList_toArray, List.set_cons_zero, List.set_cons_succ]
    refine q_run1 57 56 (v := ?_) rfl rfl rfl ?_ ?_
    rotate_left
    · (intro A hA wS hS; skip; go_simp; (try with_reducible rfl))
    dsimp only [putT, List.toList_toArray, List.set_cons_zero, List.set_cons_succ]
    refine q_move 58 57 rfl (by first | exact Or.inl rfl | exact Or.inr rfl) rfl rfl ?_
    dsimp only [putT, List.toList_toArray, List.set_cons_zero, List.set_cons_succ]
    refine q_if1 59 2 (g := x2) (v := ?_) rfl rfl (by exact (want_at rfl rfl rfl).trans (wb_t x2)) ?_ ?_
    rotate_left
    · (intro hg A hA wS hS; (try rw [hg, sel_true] at hA); (try simp only [Bool.and_eq_true, Bool.not_eq_true', Bool.or_eq_false_iff] at hg); (obtain ⟨s0, s1, s2, r0, r1, r2, r3, r4, r5⟩ := HK.out.keep hS); go_simp; (try with_reducible rfl))
    dsimp only [putT, List.toList_toArray, List.set_cons_zero, List.set_cons_succ]
    refine q_if1 60 5 (g := x2) (v := ?_) rfl rfl (by exact (want_at rfl rfl rfl).trans (wb_t x2)) ?_ ?_
    rotate_left
    · (intro hg A hA wS hS; (try rw [hg, sel_true] at hA); (try simp only [Bool.and_eq_true, Bool.not_eq_true', Bool.or_eq_false_iff] at hg); skip; go_simp; (try with_reducible rfl))
    dsimp only [putT, List.toList_toArray, List.set_cons_zero, List.set_cons_succ]
    refine q_if1 61 60 (g := x2) (v := ?_) rfl rfl (by exact (want_at rfl rfl rfl).trans (wb_t x2)) ?_ ?_
    rotate_left
    · (intro hg A hA wS hS; (try rw [hg, sel_true] at hA); (try simp only [Bool.and_eq_true, Bool.not_eq_true', Bool.or_eq_false_iff] at hg); (obtain ⟨s0, s1, s2, r0, r1, r2, r3, r4, r5⟩ := HK.out.keep hS); go_simp; (try with_reducible rfl))
    dsimp only [putT, List.toList_toArray, List.set_cons_zero, List.set_cons_succ]
    refine q_callif 62 49 (g := x2) (v := .bool x7) (args := ?_) rfl (by exact (want_at rfl rfl rfl).trans (wb_t x2)) ?_ ?_ ?_
    rotate_left 1
    · (intro hg wS hS; (try simp only [hg, sel_true]); (try simp only [Bool.and_eq_true, Bool.not_eq_true', Bool.or_eq_false_iff] at hg); go_simp; (try with_reducible rfl))
    · (intro hg wS hS; (try simp only [Bool.and_eq_true, Bool.not_eq_true', Bool.or_eq_false_iff] at hg); refine (rnode_any _ _ _ q X y.tt (HH.out.keep hS)).mono ?_; (rw [hx7]; rintro e w2 ⟨rfl, hb2⟩; exact ⟨rfl, Below.next hS hb2⟩))
    dsimp only [putT, List.toList_toArray, List.set_cons_zero, List.set_cons_succ]
    refine q_if1 63 62 (g := x2) (v := ?_) rfl rfl (by exact (want_at rfl rfl rfl).trans (wb_t x2)) ?_ ?_
    rotate_left
    · (intro hg A hA wS hS; (try rw [hg, sel_true] at hA); (try simp only [Bool.and_eq_true, Bool.not_eq_true', Bool.or_eq_false_iff] at hg); skip; go_simp; (try with_reducible rfl))
    dsimp only [putT, List.toList_toArray, List.set_cons_zero, List.set_cons_succ]
    refine q_moveg 64 63 (g := x2) rfl rfl (by exact (want_at rfl rfl rfl).trans (wb_t x2)) (by first | exact Or.inr rfl | exact Or.inl rfl) ?_
    dsimp only [putT, List.toList_toArray, List.set_cons_zero, List.set_cons_succ]
    refine q_if1 65 5 (g := (x2 && (!(!x7)))) (v := ?_) rfl rfl (by exact (want_at rfl rfl rfl).trans (ws_f x2 (!x7))) ?_ ?_
    rotate_left
    · (intro hg A hA wS hS; (try rw [hg, sel_true] at hA); (try simp only [Bool.and_eq_true, Bool.not_eq_true', Bool.or_eq_false_iff] at hg); skip; go_simp; (try with_reducible rfl))
    dsimp only [putT, List.toList_toArray, List.set_cons_zero, List.set_cons_succ]
    refine q_if1 66 65 (g := (x2 && (!(!x7)))) (v := ?_) rfl rfl (by exact (want_at rfl rfl rfl).trans (ws_f x2 (!x7))) ?_ ?_
    rotate_left
    · (intro hg A hA wS hS; (try rw [hg, sel_true] at hA); (try simp only [Bool.and_eq_true, Bool.not_eq_true', Bool.or_eq_false_iff] at hg); (obtain ⟨s0, s1, s2, r0, r1, r2, r3, r4, r5⟩ := HK.out.keep hS); go_simp; (try with_reducible rfl))
    dsimp only [putT, List.toList_toArray, List.set_cons_zero, List.set_cons_succ]
    refine q_moveg 67 1 (g := (x2 && (!(!x7)))) rfl rfl (by exact (want_at rfl rfl rfl).trans (ws_f x2 (!x7))) (by first | exact Or.inr rfl | exact Or.inl rfl) ?_
    dsimp only [putT, List.toList_toArray, List.set_cons_zero, List.set_cons_succ]
    refine q_if2 68 66 67 (g := (x2 && (!(!x7)))) (v := ?_) rfl rfl rfl (by exact (want_at rfl rfl rfl).trans (ws_f x2 (!x7))) ?_ ?_
    rotate_left
    · (intro hg A hA hA2 wS hS; (try rw [hg, sel_true] at hA); (try rw [hg, sel_true] at hA2); (try simp only [Bool.and_eq_true, Bool.not_eq_true', Bool.or_eq_false_iff] at hg); skip; go_simp; (try with_reducible rfl))
    dsimp only [putT, List.toList_toArray, List.set_cons_zero, List.set_cons_succ]
    refine q_pickG 69 64 68 (g := x2) (v := .bool ((!x7) || x13)) rfl rfl rfl rfl (by exact (want_at rfl rfl rfl).trans (wb_t x2)) (fun hg => pk_gor x2 (!x7) x13 hg) ?_
    dsimp only [putT, List.toList_toArray, List.set_cons_zero, List.set_cons_succ]
    refine q_moveg 70 69 (g := x2) rfl rfl (by exact (want_at rfl rfl rfl).trans (wb_t x2)) (by first | exact Or.inr rfl | exact Or.inl rfl) ?_
    dsimp only [putT, List.toList_toArray, List.set_cons_zero, List.set_cons_succ]
    refine q_if1 71 5 (g := (x2 && (!((!x7) || x13)))) (v := ?_) rfl rfl (by exact (want_at rfl rfl rfl).trans (ws_f x2 ((!x7) || x13))) ?_ ?_
    rotate_left
    · (intro hg A hA wS hS; (try rw [hg, sel_true] at hA); (try simp only [Bool.and_eq_true, Bool.not_eq_true', Bool.or_eq_false_iff] at hg); skip; go_simp; (try with_reducible rfl))
    dsimp only [putT, List.toList_toArray, List.set_cons_zero, List.set_cons_succ]
    refine q_if1 72 71 (g := (x2 && (!((!x7) || x13)))) (v := ?_) rfl rfl (by exact (want_at rfl rfl rfl).trans (ws_f x2 ((!x7) || x13))) ?_ ?_
    rotate_left
    · (intro hg A hA wS hS; (try rw [hg, sel_true] at hA); (try simp only [Bool.and_eq_true, Bool.not_eq_true', Bool.or_eq_false_iff] at hg); (obtain ⟨s0, s1, s2, r0, r1, r2, r3, r4, r5⟩ := HK.out.keep hS); go_simp; (try with_reducible rfl))
    dsimp only [putT, List.toList_toArray, List.set_cons_zero, List.set_cons_succ]
    refine q_if1 73 5 (g := (x2 && (!((!x7) || x13)))) (v := ?_) rfl rfl (by exact (want_at rfl rfl rfl).trans (ws_f x2 ((!x7) || x13))) ?_ ?_
    rotate_left
    · (intro hg A hA wS hS; (try rw [hg, sel_true] at hA); (try simp only [Bool.and_eq_true, Bool.not_eq_true', Bool.or_eq_false_iff] at hg); skip; go_simp; (try with_reducible rfl))
    dsimp only [putT, List.toList_toArray, List.set_cons_zero, List.set_cons_succ]
    refine q_if1 74 73 (g := (x2 && (!((!x7) || x13)))) (v := ?_) rfl rfl (by exact (want_at rfl rfl rfl).trans (ws_f x2 ((!x7) || x13))) ?_ ?_
    rotate_left
    · (intro hg A hA wS hS; (try rw [hg, sel_true] at hA); (try simp only [Bool.and_eq_true, Bool.not_eq_true', Bool.or_eq_false_iff] at hg); (obtain ⟨s0, s1, s2, r0, r1, r2, r3, r4, r5⟩ := HK.out.keep hS); go_simp; (try with_reducible rfl))
    dsimp only [putT, List.toList_toArray, List.set_cons_zero, List.set_cons_succ]
    refine q_if1 75 74 (g := (x2 && (!((!x7) || x13)))) (v := ?_) rfl rfl (by exact (want_at rfl rfl rfl).trans (ws_f x2 ((!x7) || x13))) ?_ ?_
    rotate_left
    · (intro hg A hA wS hS; (try rw [hg, sel_true] at hA); (try simp only [Bool.and_eq_true, Bool.not_eq_true', Bool.or_eq_false_iff] at hg); have hwn := hwn; go_simp; (try with_reducible rfl))
    dsimp only [putT, List.toList_toArray, List.set_cons_zero, List.set_cons_succ]
    refine q_if2 76 72 75 (g := (x2 && (!((!x7) || x13)))) (v := ?_) rfl rfl rfl (by exact (want_at rfl rfl rfl).trans (ws_f x2 ((!x7) || x13))) ?_ ?_
    rotate_left
    · (intro hg A hA hA2 wS hS; (try rw [hg, sel_true] at hA); (try rw [hg, sel_true] at hA2); (try simp only [Bool.and_eq_true, Bool.not_eq_true', Bool.or_eq_false_iff] at hg); skip; go_simp; (try with_reducible rfl))
    dsimp only [putT, List.toList_toArray, List.set_cons_zero, List.set_cons_succ]
    refine q_pickG 77 70 76 (g := x2) (v := .bool (((!x7) || x13) || x21)) rfl rfl rfl rfl (by exact (want_at rfl rfl rfl).trans (wb_t x2)) (fun hg => pk_gor x2 ((!x7) || x13) x21 hg) ?_
    dsimp only [putT, List.toList_toArray, List.set_cons_zero, List.set_cons_succ]
    refine q_moveg 78 77 (g := x2) rfl rfl (by exact (want_at rfl rfl rfl).trans (wb_t x2)) (by first | exact Or.inr rfl | exact Or.inl rfl) ?_
    dsimp only [putT, List.toList_toArray, List.set_cons_zero, List.set_cons_succ]
    refine q_if1 79 5 (g := (x2 && (!(((!x7) || x13) || x21)))) (v := ?_) rfl rfl (by exact (want_at rfl rfl rfl).trans (ws_f x2 (((!x7) || x13) || x21))) ?_ ?_
    rotate_left
    · (intro hg A hA wS hS; (try rw [hg, sel_true] at hA); (try simp only [Bool.and_eq_true, Bool.not_eq_true', Bool.or_eq_false_iff] at hg); skip; go_simp; (try with_reducible rfl))
    dsimp only [putT, List.toList_toArray, List.set_cons_zero, List.set_cons_succ]
    refine q_if1 80 79 (g := (x2 && (!(((!x7) || x13) || x21)))) (v := ?_) rfl rfl (by exact (want_at rfl rfl rfl).trans (ws_f x2 (((!x7) || x13) || x21))) ?_ ?_
    rotate_left
    · (intro hg A hA wS hS; (try rw [hg, sel_true] at hA); (try simp only [Bool.and_eq_true, Bool.not_eq_true', Bool.or_eq_false_iff] at hg); (obtain ⟨s0, s1, s2, r0, r1, r2, r3, r4, r5⟩ := HK.out.keep hS); go_simp; (try with_reducible rfl))
    dsimp only [putT, List.toList_toArray, List.set_cons_zero, List.set_cons_succ]
    refine q_if1 81 80 (g := (x2 && (!(((!x7) || x13) || x21)))) (v := ?_) rfl rfl (by exact (want_at rfl rfl rfl).trans (ws_f x2 (((!x7) || x13) || x21))) ?_ ?_
    rotate_left
    · (intro hg A hA wS hS; (try rw [hg, sel_true] at hA); (try simp only [Bool.and_eq_true, Bool.not_eq_true', Bool.or_eq_false_iff] at hg); skip; go_simp; (try with_reducible rfl))
    dsimp only [putT, List.toList_toArray, List.set_cons_zero, List.set_cons_succ]
    refine q_pickG 82 78 81 (g := x2) (v := .bool ((((!x7) || x13) || x21) || x26)) rfl rfl rfl rfl (by exact (want_at rfl rfl rfl).trans (wb_t x2)) (fun hg => pk_gor x2 (((!x7) || x13) || x21) x26 hg) ?_
    dsimp only [putT, List.toList_toArray, List.set_cons_zero, List.set_cons_succ]
    refine q_pickA 83 58 82 (v := .bool (x2 && ((((!x7) || x13) || x21) || x26))) rfl rfl rfl rfl rfl (pk_and x2 ((((!x7) || x13) || x21) || x26)) ?_
    dsimp only [putT, List.toList_toArray, List.set_cons_zero, List.set_cons_succ]
    refine q_move 84 83 rfl (by first | exact Or.inl rfl | exact Or.inr rfl) rfl rfl ?_
    dsimp only [putT, List.toList_toArray, List.set_cons_zero, List.set_cons_succ]
    refine q_if1 85 5 (g := (!(x2 && ((((!x7) || x13) || x21) || x26)))) (v := ?_) rfl rfl (by exact (want_at rfl rfl rfl).trans (wb_f (x2 && ((((!x7) || x13) || x21) || x26)))) ?_ ?_
    rotate_left
    · (intro hg A hA wS hS; (try rw [hg, sel_true] at hA); (try simp only [Bool.and_eq_true, Bool.not_eq_true', Bool.or_eq_false_iff] at hg); skip; go_simp; (try with_reducible rfl))
    dsimp only [putT, List.toList_toArray, List.set_cons_zero, List.set_cons_succ]
    refine q_if1 86 85 (g := (!(x2 && ((((!x7) || x13) || x21) || x26)))) (v := ?_) rfl rfl (by exact (want_at rfl rfl rfl).trans (wb_f (x2 && ((((!x7) || x13) || x21) || x26)))) ?_ ?_
    rotate_left
    · (intro hg A hA wS hS; (try rw [hg, sel_true] at hA); (try simp only [Bool.and_eq_true, Bool.not_eq_true', Bool.or_eq_false_iff] at hg); (obtain ⟨s0, s1, s2, r0, r1, r2, r3, r4, r5⟩ := HK.out.keep hS); go_simp; (try with_reducible rfl))
    dsimp only [putT, List.toList_toArray, List.set_cons_zero, List.set_cons_succ]
    refine q_if1 87 86 (g := (!(x2 && ((((!x7) || x13) || x21) || x26)))) (v := ?_) rfl rfl (by exact (want_at rfl rfl rfl).trans (wb_f (x2 && ((((!x7) || x13) || x21) || x26)))) ?_ ?_
    rotate_left
    · (intro hg A hA wS hS; (try rw [hg, sel_true] at hA); (try simp only [Bool.and_eq_true, Bool.not_eq_true', Bool.or_eq_false_iff] at hg); skip; go_simp; (try with_reducible rfl))
    dsimp only [putT, List.toList_toArray, List.set_cons_zero, List.set_cons_succ]
    refine q_moveg 88 87 (g := (!(x2 && ((((!x7) || x13) || x21) || x26)))) rfl rfl (by exact (want_at rfl rfl rfl).trans (wb_f (x2 && ((((!x7) || x13) || x21) || x26)))) (by first | exact Or.inr rfl | exact Or.inl rfl) ?_
    dsimp only [putT, List.toList_toArray, List.set_cons_zero, List.set_cons_succ]
    refine q_if1 89 5 (g := ((!(x2 && ((((!x7) || x13) || x21) || x26))) && x32)) (v := ?_) rfl rfl (by exact (want_at rfl rfl rfl).trans (ws_t (!(x2 && ((((!x7) || x13) || x21) || x26))) x32)) ?_ ?_
    rotate_left
    · (intro hg A hA wS hS; (try rw [hg, sel_true] at hA); (try simp only [Bool.and_eq_true, Bool.not_eq_true', Bool.or_eq_false_iff] at hg); skip; go_simp; (try with_reducible rfl))
    dsimp only [putT, List.toList_toArray, List.set_cons_zero, List.set_cons_succ]
    refine q_if1 90 89 (g := ((!(x2 && ((((!x7) || x13) || x21) || x26))) && x32)) (v := ?_) rfl rfl (by exact (want_at rfl rfl rfl).trans (ws_t (!(x2 && ((((!x7) || x13) || x21) || x26))) x32)) ?_ ?_
    rotate_left
    · (intro hg A hA wS hS; (try rw [hg, sel_true] at hA); (try simp only [Bool.and_eq_true, Bool.not_eq_true', Bool.or_eq_false_iff] at hg); (obtain ⟨s0, s1, s2, r0, r1, r2, r3, r4, r5⟩ := HK.out.keep hS); go_simp; (try with_reducible rfl))
    dsimp only [putT, List.toList_toArray, List.set_cons_zero, List.set_cons_succ]
    refine q_if1 91 90 (g := ((!(x2 && ((((!x7) || x13) || x21) || x26))) && x32)) (v := ?_) rfl rfl (by exact (want_at rfl rfl rfl).trans (ws_t (!(x2 && ((((!x7) || x13) || x21) || x26))) x32)) ?_ ?_
    rotate_left
    · (intro hg A hA wS hS; (try rw [hg, sel_true] at hA); (try simp only [Bool.and_eq_true, Bool.not_eq_true', Bool.or_eq_false_iff] at hg); skip; go_simp; (try with_reducible rfl))
    dsimp only [putT, List.toList_toArray, List.set_cons_zero, List.set_cons_succ]
    refine q_moveg 92 91 (g := ((!(x2 && ((((!x7) || x13) || x21) || x26))) && x32)) rfl rfl (by exact (want_at rfl rfl rfl).trans (ws_t (!(x2 && ((((!x7) || x13) || x21) || x26))) x32)) (by first | exact Or.inr rfl | exact Or.inl rfl) ?_
    dsimp only [putT, List.toList_toArray, List.set_cons_zero, List.set_cons_succ]
    refine q_if1 93 5 (g := (((!(x2 && ((((!x7) || x13) || x21) || x26))) && x32) && (!x36))) (v := ?_) rfl rfl (by exact (want_at rfl rfl rfl).trans (ws_f ((!(x2 && ((((!x7) || x13) || x21) || x26))) && x32) x36)) ?_ ?_
    rotate_left
    · (intro hg A hA wS hS; (try rw [hg, sel_true] at hA); (try simp only [Bool.and_eq_true, Bool.not_eq_true', Bool.or_eq_false_iff] at hg); skip; go_simp; (try with_reducible rfl))
    dsimp only [putT, List.toList_toArray, List.set_cons_zero, List.set_cons_succ]
    refine q_if1 94 93 (g := (((!(x2 && ((((!x7) || x13) || x21) || x26))) && x32) && (!x36))) (v := ?_) rfl rfl (by exact (want_at rfl rfl rfl).trans (ws_f ((!(x2 && ((((!x7) || x13) || x21) || x26))) && x32) x36)) ?_ ?_
    rotate_left
    · (intro hg A hA wS hS; (try rw [hg, sel_true] at hA); (try simp only [Bool.and_eq_true, Bool.not_eq_true', Bool.or_eq_false_iff] at hg); (obtain ⟨s0, s1, s2, r0, r1, r2, r3, r4, r5⟩ := HK.out.keep hS); go_simp; (try with_reducible rfl))
    dsimp only [putT, List.toList_toArray, List.set_cons_zero, List.set_cons_succ]
    refine q_if1 95 94 (g := (((!(x2 && ((((!x7) || x13) || x21) || x26))) && x32) && (!x36))) (v := ?_) rfl rfl (by exact (want_at rfl rfl rfl).trans (ws_f ((!(x2 && ((((!x7) || x13) || x21) || x26))) && x32) x36)) ?_ ?_
    rotate_left
    · (intro hg A hA wS hS; (try rw [hg, sel_true] at hA); (try simp only [Bool.and_eq_true, Bool.not_eq_true', Bool.or_eq_false_iff] at hg); skip; go_simp; (try with_reducible rfl))
    dsimp only [putT, List.toList_toArray, List.set_cons_zero, List.set_cons_succ]
    refine q_pickG 96 92 95 (g := ((!(x2 && ((((!x7) || x13) || x21) || x26))) && x32)) (v := .bool (x36 || x40)) rfl rfl rfl rfl (by exact (want_at rfl rfl rfl).trans (ws_t (!(x2 && ((((!x7) || x13) || x21) || x26))) x32)) (fun hg => pk_gor ((!(x2 && ((((!x7) || x13) || x21) || x26))) && x32) x36 x40 hg) ?_
    dsimp only [putT, List.toList_toArray, List.set_cons_zero, List.set_cons_succ]
    refine q_pickAG 97 88 96 (g := (!(x2 && ((((!x7) || x13) || x21) || x26)))) (v := .bool (x32 && (x36 || x40))) rfl rfl rfl rfl (by exact (want_at rfl rfl rfl).trans (wb_f (x2 && ((((!x7) || x13) || x21) || x26)))) (fun hg => pk_gand (!(x2 && ((((!x7) || x13) || x21) || x26))) x32 (x36 || x40) hg) ?_
    dsimp only [putT, List.toList_toArray, List.set_cons_zero, List.set_cons_succ]
    refine q_pick 98 84 97 (v := .bool ((x2 && ((((!x7) || x13) || x21) || x26)) || (x32 && (x36 || x40)))) rfl rfl rfl rfl rfl (pk_or (x2 && ((((!x7) || x13) || x21) || x26)) (x32 && (x36 || x40))) ?_
    dsimp only [putT, List.toList_toArray, List.set_cons_zero, List.set_cons_succ]
    refine wpQuiet_nil ?_
    intro wS hS
    go_wp2_with fail
    go_meet
    refine ⟨congrArg Value.bool ?_, hS⟩
    rw [← hx2, ← hx7, ← hx13, ← hx21, ← hx26, ← hx32, ← hx36, ← hx40]
    apply Bool.eq_iff_iff.2
    simp only [Bool.or_eq_true, Bool.and_eq_true, decide_eq_true_eq, beq_iff_eq, bne_iff_ne, Bool.not_eq_true', decide_eq_false_iff_not]
    unfold bad4
    generalize isN X y.tt = A
    constructor
    · rintro (⟨h1, ((h2 | h2) | h2) | h2⟩ | ⟨h1, h2⟩)
      · exact .inl ⟨h1, .inl h2⟩
      · exact .inl ⟨h1, .inr (.inl h2)⟩
      · exact .inl ⟨h1, .inr (.inr (.inl h2))⟩
      · exact .inl ⟨h1, .inr (.inr (.inr h2))⟩
      · exact .inr ⟨h1, h2⟩
    · rintro (⟨h1, h2 | h2 | h2 | h2⟩ | ⟨h1, h2⟩)
      · exact .inl ⟨h1, .inl (.inl (.inl h2))⟩
      · exact .inl ⟨h1, .inl (.inl (.inr h2))⟩
      · exact .inl ⟨h1, .inl (.inr h2)⟩
      · exact .inl ⟨h1, .inr h2⟩
      · exact .inr ⟨h1, h2⟩
  case rest =>
  obtain ⟨hcc, hbx⟩ := hcut
  rename World => wx
  have HK := Lib.hid (HK.out.keep hbx)
  have HH := Lib.hid (HH.out.keep hbx)
  have HTK := Lib.hid (HTK.out.keep hbx)
  have HKP := Lib.hid (HKP.out.keep hbx)
  have hB := Below.next hB hbx
  clear hbx
  by_cases hbad : bad4 X n y
  · rw [yb hbad] at hcc
    subst hcc
    obtain rfl : r = false := by rw [← HR.out]; exact nb (fun hg => hg.2.1 hbad)
    go_wp2_with fail
    go_ret
    exact ⟨rfl, hB⟩
  rw [nb hbad] at hcc
  subst hcc
  have HB2 := Lib.hid hbad
  clear hbad
  obtain ⟨ww, hww⟩ : ∃ ww, ww = wx := ⟨_, rfl⟩
  rw [← hww] at HK HH HTK HKP hB ⊢
  clear hww wx
  obtain ⟨N1, hN1⟩ : ∃ N, tks.length = N := ⟨_, rfl⟩
  obtain ⟨N2, hN2⟩ : ∃ N, kps.length = N := ⟨_, rfl⟩
  have hta := HTA.out
  have hka := HKA.out
  rw [hN1] at hta htm
  rw [hN2] at hka hkm
  have HTA := Lib.hid hta
  have HKA := Lib.hid hka
  have HN1 := Lib.hid hN1
  have HN2 := Lib.hid hN2
  clear hta hka hN1 hN2
  have HTN : Hid (RdG ww (.slice y.ta N1 y.tc) tks) := Lib.hid (by rw [← HTA.out]; exact HTK.out)
  have HKN : Hid (RdG ww (.slice y.ka N2 y.kc) kps) := Lib.hid (by rw [← HKA.out]; exact HKP.out)
  go_wp2_with fail
  go_loopw [6] (fun i wr => ∃ k : Nat, k ≤ N1 ∧ i = .int .i64 k ∧ Below ww.heap.size ww wr ∧ ∀ j, j < k → okT X n tks j) (fun i _ => N1 - (intOf i).toNat)
  case atStart => exact ⟨0, Nat.zero_le _, rfl, Below.refl _ _, fun j hj => by omega⟩
  case round =>
    obtain ⟨k, hkN, rfl, hBr, hz0⟩ := hrel
    have HZ0 := Lib.hid hz0
    clear hz0
    have HKr := Lib.hid (HK.out.keep hBr)
    have HHr := Lib.hid (HH.out.keep hBr)
    by_cases hlt : k < N1
    · have d2 : decide ((k : Int) < (N1 : Int)) = true := yb (by omega)
      obtain ⟨b1, o1, he1, hc1, g0, g1⟩ := RdG.at (HTN.out.keep hBr) HN1.out k hlt
      obtain ⟨p, hp⟩ : ∃ p, k - 1 = p := ⟨_, rfl⟩
      obtain ⟨b2, o2, he2, _, p0, p1⟩ := RdG.at (HTN.out.keep hBr) HN1.out p (by omega)
      rw [he1] at he2
      cases he2
      have HE1 : Hid (y.tv = .slice (some ⟨b1, o1, none⟩) N1 y.tc) := Lib.hid (by rw [← he1, ← HTA.out])
      obtain ⟨t, HT⟩ : ∃ t, Hid (gt tks k = t) := ⟨_, rfl⟩
      obtain ⟨u, HU⟩ : ∃ u, Hid (gt tks p = u) := ⟨_, rfl⟩
      rw [HT.out] at g0 g1
      rw [HU.out] at p0 p1
      have n1 : (0 : Int) ≤ (k : Int) := by omega
      have n2 : (k : Int) < (N1 : Int) := by omega
      have hwk : IntKind.i64.wrap (k : Int) = (k : Int) := IntWalk.i64_in _ (by omega)
      have j1 : (0 : Int) ≤ (p : Int) := by omega
      have j2 : (p : Int) < (N1 : Int) := by omega
      have hwp : IntKind.i64.wrap (p : Int) = (p : Int) := IntWalk.i64_in _ (by omega)
      have HP := Lib.hid hp
      have HB1' := Lib.hid he1
      clear hp he1
      obtain ⟨W2, hW2⟩ : ∃ W2 : World, W2 = wr.alloc (.cells #[.int .i64 t.nd, .int .i64 t.of] 80) := ⟨_, rfl⟩
      have hBW : Below wr.heap.size wr W2 := by rw [hW2]; exact (by repeat (first | assumption | exact Below.refl _ _ | apply Below.al | apply below_drewN | apply Below.drew | refine Below.next ?_ (by assumption)))
      have bT : BoxN W2 wr.heap.size 80 #[.int .i64 t.nd, .int .i64 t.of] := by rw [hW2]; exact BoxN.new _ _ _
      have t0 : W2.cell? ⟨wr.heap.size, 0, none⟩ = some (.int .i64 t.nd) := bT.cell 0
      have t1 : W2.cell? ⟨wr.heap.size, 1, none⟩ = some (.int .i64 t.of) := bT.cell 1
      have p0' := cell_later hBW p0
      have p1' := cell_later hBW p1
      have HK2 := Lib.hid (HKr.out.keep hBW)
      have HH2 := Lib.hid (HHr.out.keep hBW)
      clear bT
      obtain ⟨s0, s1, s2, r0, r1, r2, r3, r4, r5⟩ := HKr.out
      rw [HE1.out] at r4
      go_upto_region 10 with fail
      rw [← hW2]
      clear hW2 s0 s1 s2 r0 r1 r2 r3 r4 r5 g0 g1 p0 p1
      have hv : (((t.nd == n) || (!decide (madeP X t.nd t.of))) || (decide (0 < k) && (!decide (ltG u t)))) = !decide (okT X n tks k) := okT_b HT.out (by rw [HP.out]; exact HU.out)
      obtain ⟨x3, hx3⟩ : ∃ b, (t.nd == n) = b := ⟨_, rfl⟩
      obtain ⟨x10, hx10⟩ : ∃ b, decide (madeP X t.nd t.of) = b := ⟨_, rfl⟩
      obtain ⟨x15, hx15⟩ : ∃ b, decide (0 < k) = b := ⟨_, rfl⟩
      have hx15' : decide ((0 : Int) < (k : Int)) = x15 := by rw [← hx15]; apply decide_eq_decide.2; omega
      obtain ⟨x24, hx24⟩ : ∃ b, decide (ltG u t) = b := ⟨_, rfl⟩
      rw [hx3, hx10, hx15, hx24] at hv
      have HV := Lib.hid hv
      clear hv
      have hwqq : x15 = true → k - 1 = p → IntKind.i64.wrap ((k : Int) - 1) = (p : Int) := fun h1 h2 => by
        rw [← hx15] at h1
        have h1 := of_decide_eq_true h1
        rw [show (k : Int) - 1 = (p : Int) by omega]
        exact hwp
      refine wp_region_sym (fun w' => Below W2.heap.size W2 w') (by kernel_rfl) (by kernel_rfl) ((Below.refl _ W2).drew) ?_
      refine q_run1 111 7 (v := ?_) rfl rfl rfl ?_ ?_
      rotate_left
      · (intro A hA wS hS; skip; go_simp; (try with_reducible rfl))
      dsimp only [putT, List.toList_toArray, List.set_cons_zero, List.set_cons_succ]
      refine q_run1 112 111 (v := ?_) rfl rfl rfl ?_ ?_
      rotate_left
      · (intro A hA wS hS; (obtain ⟨s0, s1, s2, r0, r1, r2, r3, r4, r5⟩ := HK2.out.keep hS; rw [HE1.out] at r4; have z0 := cell_later hS t0; have z1 := cell_later hS t1; have z2 := cell_later hS p0'; have z3 := cell_later hS p1'); go_simp; (try with_reducible rfl))
      dsimp only [putT, List.toList_toArray, List.set_cons_zero, List.set_cons_succ]
      refine q_move 113 1 rfl (by first | exact Or.inl rfl | exact Or.inr rfl) rfl rfl ?_
      dsimp only [putT, List.toList_toArray, List.set_cons_zero, List.set_cons_succ]
      refine q_run2 114 112 113 (v := ?_) rfl rfl rfl rfl ?_ ?_
      rotate_left
      · (intro A hA hA2 wS hS; skip; go_simp; (try with_reducible rfl))
      dsimp only [putT, List.toList_toArray, List.set_cons_zero, List.set_cons_succ]
      refine q_move 115 114 rfl (by first | exact Or.inl rfl | exact Or.inr rfl) rfl rfl ?_
      dsimp only [putT, List.toList_toArray, List.set_cons_zero, List.set_cons_succ]
      refine q_if1 116 2 (g := (!x3)) (v := ?_) rfl rfl (by exact (want_at rfl rfl rfl).trans (wb_f x3)) ?_ ?_
      rotate_left
      · (intro hg A hA wS hS; (try rw [hg, sel_true] at hA); (try simp only [Bool.and_eq_true, Bool.not_eq_true', Bool.or_eq_false_iff] at hg); (obtain ⟨s0, s1, s2, r0, r1, r2, r3, r4, r5⟩ := HK2.out.keep hS; rw [HE1.out] at r4; have z0 := cell_later hS t0; have z1 := cell_later hS t1; have z2 := cell_later hS p0'; have z3 := cell_later hS p1'); go_simp; (try with_reducible rfl))
      dsimp only [putT, List.toList_toArray, List.set_cons_zero, List.set_cons_succ]
      refine q_if1 117 7 (g := (!x3)) (v := ?_) rfl rfl (by exact (want_at rfl rfl rfl).trans (wb_f x3)) ?_ ?_
      rotate_left
      · (intro hg A hA wS hS; (try rw [hg, sel_true] at hA); (try simp only [Bool.and_eq_true, Bool.not_eq_true', Bool.or_eq_false_iff] at hg); skip; go_simp; (try with_reducible rfl))
      dsimp only [putT, List.toList_toArray, List.set_cons_zero, List.set_cons_succ]
      refine q_if1 118 117 (g := (!x3)) (v := ?_) rfl rfl (by exact (want_at rfl rfl rfl).trans (wb_f x3)) ?_ ?_
      rotate_left
      · (intro hg A hA wS hS; (try rw [hg, sel_true] at hA); (try simp only [Bool.and_eq_true, Bool.not_eq_true', Bool.or_eq_false_iff] at hg); (obtain ⟨s0, s1, s2, r0, r1, r2, r3, r4, r5⟩ := HK2.out.keep hS; rw [HE1.out] at r4; have z0 := cell_later hS t0; have z1 := cell_later hS t1; have z2 := cell_later hS p0'; have z3 := cell_later hS p1'); go_simp; (try with_reducible rfl))
      dsimp only [putT, List.toList_toArray, List.set_cons_zero, List.set_cons_succ]
      refine q_if1 119 7 (g := (!x3)) (v := ?_) rfl rfl (by exact (want_at rfl rfl rfl).trans (wb_f x3)) ?_ ?_
      rotate_left
      · (intro hg A hA wS hS; (try rw [hg, sel_true] at hA); (try simp only [Bool.and_eq_true, Bool.not_eq_true', Bool.or_eq_false_iff] at hg); skip; go_simp; (try with_reducible rfl))
      dsimp only [putT, List.toList_toArray, List.set_cons_zero, List.set_cons_succ]
      refine q_if1 120 119 (g := (!x3)) (v := ?_) rfl rfl (by exact (want_at rfl rfl rfl).trans (wb_f x3)) ?_ ?_
      rotate_left
      · (intro hg A hA wS hS; (try rw [hg, sel_true] at hA); (try simp only [Bool.and_eq_true, Bool.not_eq_true', Bool.or_eq_false_iff] at hg); (obtain ⟨s0, s1, s2, r0, r1, r2, r3, r4, r5⟩ := HK2.out.keep hS; rw [HE1.out] at r4; have z0 := cell_later hS t0; have z1 := cell_later hS t1; have z2 := cell_later hS p0'; have z3 := cell_later hS p1'); go_simp; (try with_reducible rfl))
      dsimp only [putT, List.toList_toArray, List.set_cons_zero, List.set_cons_succ]
      refine q_callif 121 51 (g := (!x3)) (v := .bool x10) (args := ?_) rfl (by exact (want_at rfl rfl rfl).trans (wb_f x3)) ?_ ?_ ?_
      rotate_left 1
      · (intro hg wS hS; (try simp only [hg, sel_true]); (try simp only [Bool.and_eq_true, Bool.not_eq_true', Bool.or_eq_false_iff] at hg); go_simp; (try with_reducible rfl))
      · (intro hg wS hS; (try simp only [Bool.and_eq_true, Bool.not_eq_true', Bool.or_eq_false_iff] at hg); refine (rmade_any _ _ _ q X t.nd t.of (HH2.out.keep hS)).mono ?_; (rw [hx10]; rintro e w2 ⟨rfl, hb2⟩; exact ⟨rfl, Below.next hS hb2⟩))
      dsimp only [putT, List.toList_toArray, List.set_cons_zero, List.set_cons_succ]
      refine q_if1 122 121 (g := (!x3)) (v := ?_) rfl rfl (by exact (want_at rfl rfl rfl).trans (wb_f x3)) ?_ ?_
      rotate_left
      · (intro hg A hA wS hS; (try rw [hg, sel_true] at hA); (try simp only [Bool.and_eq_true, Bool.not_eq_true', Bool.or_eq_false_iff] at hg); skip; go_simp; (try with_reducible rfl))
      dsimp only [putT, List.toList_toArray, List.set_cons_zero, List.set_cons_succ]
      refine q_pick 123 115 122 (v := .bool (x3 || (!x10))) rfl rfl rfl rfl rfl (pk_or x3 (!x10)) ?_
      dsimp only [putT, List.toList_toArray, List.set_cons_zero, List.set_cons_succ]
      refine q_move 124 123 rfl (by first | exact Or.inl rfl | exact Or.inr rfl) rfl rfl ?_
      dsimp only [putT, List.toList_toArray, List.set_cons_zero, List.set_cons_succ]
      refine q_moveg 125 6 (g := (!(x3 || (!x10)))) rfl rfl (by exact (want_at rfl rfl rfl).trans (wb_f (x3 || (!x10)))) (by first | exact Or.inr rfl | exact Or.inl rfl) ?_
      dsimp only [putT, List.toList_toArray, List.set_cons_zero, List.set_cons_succ]
      refine q_if1 126 125 (g := (!(x3 || (!x10)))) (v := ?_) rfl rfl (by exact (want_at rfl rfl rfl).trans (wb_f (x3 || (!x10)))) ?_ ?_
      rotate_left
      · (intro hg A hA wS hS; (try rw [hg, sel_true] at hA); (try simp only [Bool.and_eq_true, Bool.not_eq_true', Bool.or_eq_false_iff] at hg); skip; go_simp; (try with_reducible rfl))
      dsimp only [putT, List.toList_toArray, List.set_cons_zero, List.set_cons_succ]
      refine q_moveg 127 126 (g := (!(x3 || (!x10)))) rfl rfl (by exact (want_at rfl rfl rfl).trans (wb_f (x3 || (!x10)))) (by first | exact Or.inr rfl | exact Or.inl rfl) ?_
      dsimp only [putT, List.toList_toArray, List.set_cons_zero, List.set_cons_succ]
      refine q_if1 128 5 (g := ((!(x3 || (!x10))) && x15)) (v := ?_) rfl rfl (by exact (want_at rfl rfl rfl).trans (ws_t (!(x3 || (!x10))) x15)) ?_ ?_
      rotate_left
      · (intro hg A hA wS hS; (try rw [hg, sel_true] at hA); (try simp only [Bool.and_eq_true, Bool.not_eq_true', Bool.or_eq_false_iff] at hg); skip; go_simp; (try with_reducible rfl))
      dsimp only [putT, List.toList_toArray, List.set_cons_zero, List.set_cons_succ]
      refine q_if1 129 128 (g := ((!(x3 || (!x10))) && x15)) (v := ?_) rfl rfl (by exact (want_at rfl rfl rfl).trans (ws_t (!(x3 || (!x10))) x15)) ?_ ?_
      rotate_left
      · (intro hg A hA wS hS; (try rw [hg, sel_true] at hA); (try simp only [Bool.and_eq_true, Bool.not_eq_true', Bool.or_eq_false_iff] at hg); (obtain ⟨s0, s1, s2, r0, r1, r2, r3, r4, r5⟩ := HK2.out.keep hS; rw [HE1.out] at r4; have z0 := cell_later hS t0; have z1 := cell_later hS t1; have z2 := cell_later hS p0'; have z3 := cell_later hS p1'); go_simp; (try with_reducible rfl))
      dsimp only [putT, List.toList_toArray, List.set_cons_zero, List.set_cons_succ]
      refine q_moveg 130 6 (g := ((!(x3 || (!x10))) && x15)) rfl rfl (by exact (want_at rfl rfl rfl).trans (ws_t (!(x3 || (!x10))) x15)) (by first | exact Or.inr rfl | exact Or.inl rfl) ?_
      dsimp only [putT, List.toList_toArray, List.set_cons_zero, List.set_cons_succ]
      refine q_if1 131 130 (g := ((!(x3 || (!x10))) && x15)) (v := ?_) rfl rfl (by exact (want_at rfl rfl rfl).trans (ws_t (!(x3 || (!x10))) x15)) ?_ ?_
      rotate_left
      · (intro hg A hA wS hS; (try rw [hg, sel_true] at hA); (try simp only [Bool.and_eq_true, Bool.not_eq_true', Bool.or_eq_false_iff] at hg); have hk0 := HP.out; have hwq := hwqq hg.2 hk0; go_simp; (try with_reducible rfl))
      dsimp only [putT, List.toList_toArray, List.set_cons_zero, List.set_cons_succ]
      refine q_if2 132 129 131 (g := ((!(x3 || (!x10))) && x15)) (v := ?_) rfl rfl rfl (by exact (want_at rfl rfl rfl).trans (ws_t (!(x3 || (!x10))) x15)) ?_ ?_
      rotate_left
      · (intro hg A hA hA2 wS hS; (try rw [hg, sel_true] at hA); (try rw [hg, sel_true] at hA2); (try simp only [Bool.and_eq_true, Bool.not_eq_true', Bool.or_eq_false_iff] at hg); skip; go_simp; (try with_reducible rfl))
      dsimp only [putT, List.toList_toArray, List.set_cons_zero, List.set_cons_succ]
      refine q_if1 133 132 (g := ((!(x3 || (!x10))) && x15)) (v := ?_) rfl rfl (by exact (want_at rfl rfl rfl).trans (ws_t (!(x3 || (!x10))) x15)) ?_ ?_
      rotate_left
      · (intro hg A hA wS hS; (try rw [hg, sel_true] at hA); (try simp only [Bool.and_eq_true, Bool.not_eq_true', Bool.or_eq_false_iff] at hg); (obtain ⟨s0, s1, s2, r0, r1, r2, r3, r4, r5⟩ := HK2.out.keep hS; rw [HE1.out] at r4; have z0 := cell_later hS t0; have z1 := cell_later hS t1; have z2 := cell_later hS p0'; have z3 := cell_later hS p1'); go_simp; (try with_reducible rfl))
      dsimp only [putT, List.toList_toArray, List.set_cons_zero, List.set_cons_succ]
      refine q_if1 134 7 (g := ((!(x3 || (!x10))) && x15)) (v := ?_) rfl rfl (by exact (want_at rfl rfl rfl).trans (ws_t (!(x3 || (!x10))) x15)) ?_ ?_
      rotate_left
      · (intro hg A hA wS hS; (try rw [hg, sel_true] at hA); (try simp only [Bool.and_eq_true, Bool.not_eq_true', Bool.or_eq_false_iff] at hg); (obtain ⟨s0, s1, s2, r0, r1, r2, r3, r4, r5⟩ := HK2.out.keep hS; rw [HE1.out] at r4; have z0 := cell_later hS t0; have z1 := cell_later hS t1; have z2 := cell_later hS p0'; have z3 := cell_later hS p1'); go_simp; (try with_reducible rfl))
      dsimp only [putT, List.toList_toArray, List.set_cons_zero, List.set_cons_succ]
      refine q_callif 135 70 (g := ((!(x3 || (!x10))) && x15)) (v := .bool x24) (args := ?_) rfl (by exact (want_at rfl rfl rfl).trans (ws_t (!(x3 || (!x10))) x15)) ?_ ?_ ?_
      rotate_left 1
      · (intro hg wS hS; (try simp only [hg, sel_true]); (try simp only [Bool.and_eq_true, Bool.not_eq_true', Bool.or_eq_false_iff] at hg); go_simp; (try with_reducible rfl))
      · (intro hg wS hS; (try simp only [Bool.and_eq_true, Bool.not_eq_true', Bool.or_eq_false_iff] at hg); refine (rless_any u t _).mono ?_; (rw [hx24]; rintro e w2 ⟨rfl, hb2⟩; exact ⟨rfl, Below.next hS hb2⟩))
      dsimp only [putT, List.toList_toArray, List.set_cons_zero, List.set_cons_succ]
      refine q_if1 136 135 (g := ((!(x3 || (!x10))) && x15)) (v := ?_) rfl rfl (by exact (want_at rfl rfl rfl).trans (ws_t (!(x3 || (!x10))) x15)) ?_ ?_
      rotate_left
      · (intro hg A hA wS hS; (try rw [hg, sel_true] at hA); (try simp only [Bool.and_eq_true, Bool.not_eq_true', Bool.or_eq_false_iff] at hg); skip; go_simp; (try with_reducible rfl))
      dsimp only [putT, List.toList_toArray, List.set_cons_zero, List.set_cons_succ]
      refine q_pickAG 137 127 136 (g := (!(x3 || (!x10)))) (v := .bool (x15 && (!x24))) rfl rfl rfl rfl (by exact (want_at rfl rfl rfl).trans (wb_f (x3 || (!x10)))) (fun hg => pk_gand (!(x3 || (!x10))) x15 (!x24) hg) ?_
      dsimp only [putT, List.toList_toArray, List.set_cons_zero, List.set_cons_succ]
      refine q_pick 138 124 137 (v := .bool ((x3 || (!x10)) || (x15 && (!x24)))) rfl rfl rfl rfl rfl (pk_or (x3 || (!x10)) (x15 && (!x24))) ?_
      dsimp only [putT, List.toList_toArray, List.set_cons_zero, List.set_cons_succ]
      refine wpQuiet_nil ?_
      intro wS hS
      rw [HV.out]
      have hB2 := Below.next hB (Below.next hBr (Below.next hBW hS))
      have hBr2 := Below.next hBr (Below.next hBW hS)
      by_cases hok : okT X n tks k
      · rw [yb hok]
        have HOK := Lib.hid hok
        clear hok hx3 hx10 hx15 hx15' hx24 t0 t1 p0' p1'
        go_wp2_with fail
        go_roundw
        case rel => exact ⟨k + 1, by omega, by go_num, hBr2, fun j hj => by
          by_cases hjk : j = k
          · subst hjk; exact HOK.out
          · exact HZ0.out j (by omega)⟩
        case measure => simp [intOf]; omega
      · rw [nb hok]
        obtain rfl : r = false := by rw [← HR.out]; exact nb (fun hg => hok (hg.2.2.1 k (by rw [HN1.out]; exact hlt)))
        clear hok hx3 hx10 hx15 hx15' hx24 t0 t1 p0' p1'
        go_wp2_with fail
        go_ret
        exact ⟨rfl, hB2⟩
    · obtain rfl : k = N1 := by omega
      have d2 : decide ((k : Int) < (k : Int)) = false := nb (by omega)
      have HE1 : Hid (y.tv = .slice y.ta k y.tc) := Lib.hid (by rw [← HTA.out])
      obtain ⟨s0, s1, s2, r0, r1, r2, r3, r4, r5⟩ := HKr.out
      rw [HE1.out] at r4
      have HKN := Lib.hid (HKN.out.keep hBr)
      have HTK := Lib.hid (HTK.out.keep hBr)
      have HE2 : Hid (y.kv = .slice y.ka N2 y.kc) := Lib.hid (by rw [← HKA.out])
      have HB := Lib.hid (Below.next hB hBr)
      go_wp2_with fail
      clear s0 s1 s2 r0 r1 r2 r3 r4 r5
      obtain ⟨wo, rfl⟩ : ∃ wo, wo = wr := ⟨_, rfl⟩
      go_loopw [8] (fun i ws => ∃ k : Nat, k ≤ N2 ∧ i = .int .i64 k ∧ Below wo.heap.size wo ws ∧ ∀ j, j < k → okK tks kps j) (fun i _ => N2 - (intOf i).toNat)
      case atStart => exact ⟨0, Nat.zero_le _, rfl, Below.refl _ _, fun j hj => by omega⟩
      case round =>
        obtain ⟨k2, hkN2, rfl, hBs, hz0⟩ := hrel
        have HZ1 := Lib.hid hz0
        clear hz0
        have HKs := Lib.hid (HKr.out.keep hBs)
        by_cases hlt : k2 < N2
        · have d2 : decide ((k2 : Int) < (N2 : Int)) = true := yb (by omega)
          obtain ⟨b1, o1, he1, hc1, g0, g1⟩ := RdG.at (HKN.out.keep hBs) HN2.out k2 hlt
          obtain ⟨p, hp⟩ : ∃ p, k2 - 1 = p := ⟨_, rfl⟩
          obtain ⟨b2, o2, he2, _, p0, p1⟩ := RdG.at (HKN.out.keep hBs) HN2.out p (by omega)
          rw [he1] at he2
          cases he2
          have HE3 : Hid (y.kv = .slice (some ⟨b1, o1, none⟩) N2 y.kc) := Lib.hid (by rw [← he1, ← HKA.out])
          obtain ⟨t, HT⟩ : ∃ t, Hid (gt kps k2 = t) := ⟨_, rfl⟩
          obtain ⟨u, HU⟩ : ∃ u, Hid (gt kps p = u) := ⟨_, rfl⟩
          rw [HT.out] at g0 g1
          rw [HU.out] at p0 p1
          have n1 : (0 : Int) ≤ (k2 : Int) := by omega
          have n2 : (k2 : Int) < (N2 : Int) := by omega
          have hwk : IntKind.i64.wrap (k2 : Int) = (k2 : Int) := IntWalk.i64_in _ (by omega)
          have j1 : (0 : Int) ≤ (p : Int) := by omega
          have j2 : (p : Int) < (N2 : Int) := by omega
          have hwp : IntKind.i64.wrap (p : Int) = (p : Int) := IntWalk.i64_in _ (by omega)
          have HP := Lib.hid hp
          have HTK2 := Lib.hid (HTK.out.keep hBs)
          have hBs2 := hBs
          clear hp he1 d2
          obtain ⟨s0, s1, s2, r0, r1, r2, r3, r4, r5⟩ := HKs.out
          rw [HE3.out] at r5
          have d2 : decide ((k2 : Int) < (N2 : Int)) = true := yb (by omega)
          go_upto_region 15 with fail
          clear s0 s1 s2 r0 r1 r2 r3 r4 r5
          have hv : ((!decide (t ∈ tks)) || (decide (0 < k2) && (!decide (ltG u t)))) = !decide (okK tks kps k2) := okK_b HT.out (by rw [HP.out]; exact HU.out)
          obtain ⟨x7, hx7⟩ : ∃ b, decide (t ∈ tks) = b := ⟨_, rfl⟩
          obtain ⟨x11, hx11⟩ : ∃ b, decide (0 < k2) = b := ⟨_, rfl⟩
          have hx11' : decide ((0 : Int) < (k2 : Int)) = x11 := by rw [← hx11]; apply decide_eq_decide.2; omega
          obtain ⟨x24, hx24⟩ : ∃ b, decide (ltG u t) = b := ⟨_, rfl⟩
          rw [hx7, hx11, hx24] at hv
          have HV := Lib.hid hv
          clear hv
          have hwqq : x11 = true → k2 - 1 = p → IntKind.i64.wrap ((k2 : Int) - 1) = (p : Int) := fun h1 h2 => by
            rw [← hx11] at h1
            have h1 := of_decide_eq_true h1
            rw [show (k2 : Int) - 1 = (p : Int) by omega]
            exact hwp
          obtain ⟨W2, hW2⟩ : ∃ W2 : World, W2 = wr := ⟨_, rfl⟩
          rw [← hW2] at hBs HKs g0 g1 p0 p1 HTK2 ⊢
          refine wp_region_sym (fun w' => Below W2.heap.size W2 w') (by kernel_rfl) (by kernel_rfl) ((Below.refl _ W2).drew) ?_
          refine q_run1 146 5 (v := ?_) rfl rfl rfl ?_ ?_
          rotate_left
          · (intro A hA wS hS; skip; go_simp; (try with_reducible rfl))
          dsimp only [putT, List.toList_toArray, List.set_cons_zero, List.set_cons_succ]
          refine q_run1 147 146 (v := ?_) rfl rfl rfl ?_ ?_
          rotate_left
          · (intro A hA wS hS; (obtain ⟨s0, s1, s2, r0, r1, r2, r3, r4, r5⟩ := HKs.out.keep hS; rw [HE3.out] at r5; have z0 := cell_later hS g0; have z1 := cell_later hS g1; have z2 := cell_later hS p0; have z3 := cell_later hS p1); go_simp; (try with_reducible rfl))
          dsimp only [putT, List.toList_toArray, List.set_cons_zero, List.set_cons_succ]
          refine q_run1 148 5 (v := ?_) rfl rfl rfl ?_ ?_
          rotate_left
          · (intro A hA wS hS; skip; go_simp; (try with_reducible rfl))
          dsimp only [putT, List.toList_toArray, List.set_cons_zero, List.set_cons_succ]
          refine q_run1 149 148 (v := ?_) rfl rfl rfl ?_ ?_
          rotate_left
          · (intro A hA wS hS; (obtain ⟨s0, s1, s2, r0, r1, r2, r3, r4, r5⟩ := HKs.out.keep hS; rw [HE3.out] at r5; have z0 := cell_later hS g0; have z1 := cell_later hS g1; have z2 := cell_later hS p0; have z3 := cell_later hS p1); go_simp; (try with_reducible rfl))
          dsimp only [putT, List.toList_toArray, List.set_cons_zero, List.set_cons_succ]
          refine q_move 150 8 rfl (by first | exact Or.inl rfl | exact Or.inr rfl) rfl rfl ?_
          dsimp only [putT, List.toList_toArray, List.set_cons_zero, List.set_cons_succ]
          refine q_run2 151 149 150 (v := ?_) rfl rfl rfl rfl ?_ ?_
          rotate_left
          · (intro A hA hA2 wS hS; skip; go_simp; (try with_reducible rfl))
          dsimp only [putT, List.toList_toArray, List.set_cons_zero, List.set_cons_succ]
          refine q_run1 152 151 (v := ?_) rfl rfl rfl ?_ ?_
          rotate_left
          · (intro A hA wS hS; (obtain ⟨s0, s1, s2, r0, r1, r2, r3, r4, r5⟩ := HKs.out.keep hS; rw [HE3.out] at r5; have z0 := cell_later hS g0; have z1 := cell_later hS g1; have z2 := cell_later hS p0; have z3 := cell_later hS p1); go_simp; (try with_reducible rfl))
          dsimp only [putT, List.toList_toArray, List.set_cons_zero, List.set_cons_succ]
          refine q_call 153 71 (v := .bool x7) (args := ?_) rfl rfl ?_ ?_ ?_
          rotate_left 1
          · (intro wS hS; go_simp; (try with_reducible rfl))
          · (intro wS hS; refine (rhas_any _ tks t _ (HTK2.out.keep hS)).mono ?_; (rw [hx7]; rintro e w2 ⟨rfl, hb2⟩; exact ⟨rfl, Below.next hS hb2⟩))
          dsimp only [putT, List.toList_toArray, List.set_cons_zero, List.set_cons_succ]
          refine q_run1 154 153 (v := ?_) rfl rfl rfl ?_ ?_
          rotate_left
          · (intro A hA wS hS; skip; go_simp; (try with_reducible rfl))
          dsimp only [putT, List.toList_toArray, List.set_cons_zero, List.set_cons_succ]
          refine q_move 155 154 rfl (by first | exact Or.inl rfl | exact Or.inr rfl) rfl rfl ?_
          dsimp only [putT, List.toList_toArray, List.set_cons_zero, List.set_cons_succ]
          refine q_moveg 156 8 (g := (!(!x7))) rfl rfl (by exact (want_at rfl rfl rfl).trans (wb_f (!x7))) (by first | exact Or.inr rfl | exact Or.inl rfl) ?_
          dsimp only [putT, List.toList_toArray, List.set_cons_zero, List.set_cons_succ]
          refine q_if1 157 156 (g := (!(!x7))) (v := ?_) rfl rfl (by exact (want_at rfl rfl rfl).trans (wb_f (!x7))) ?_ ?_
          rotate_left
          · (intro hg A hA wS hS; (try rw [hg, sel_true] at hA); (try simp only [Bool.and_eq_true, Bool.not_eq_true', Bool.or_eq_false_iff] at hg); skip; go_simp; (try with_reducible rfl))
          dsimp only [putT, List.toList_toArray, List.set_cons_zero, List.set_cons_succ]
          refine q_moveg 158 157 (g := (!(!x7))) rfl rfl (by exact (want_at rfl rfl rfl).trans (wb_f (!x7))) (by first | exact Or.inr rfl | exact Or.inl rfl) ?_
          dsimp only [putT, List.toList_toArray, List.set_cons_zero, List.set_cons_succ]
          refine q_if1 159 5 (g := ((!(!x7)) && x11)) (v := ?_) rfl rfl (by exact (want_at rfl rfl rfl).trans (ws_t (!(!x7)) x11)) ?_ ?_
          rotate_left
          · (intro hg A hA wS hS; (try rw [hg, sel_true] at hA); (try simp only [Bool.and_eq_true, Bool.not_eq_true', Bool.or_eq_false_iff] at hg); skip; go_simp; (try with_reducible rfl))
          dsimp only [putT, List.toList_toArray, List.set_cons_zero, List.set_cons_succ]
          refine q_if1 160 159 (g := ((!(!x7)) && x11)) (v := ?_) rfl rfl (by exact (want_at rfl rfl rfl).trans (ws_t (!(!x7)) x11)) ?_ ?_
          rotate_left
          · (intro hg A hA wS hS; (try rw [hg, sel_true] at hA); (try simp only [Bool.and_eq_true, Bool.not_eq_true', Bool.or_eq_false_iff] at hg); (obtain ⟨s0, s1, s2, r0, r1, r2, r3, r4, r5⟩ := HKs.out.keep hS; rw [HE3.out] at r5; have z0 := cell_later hS g0; have z1 := cell_later hS g1; have z2 := cell_later hS p0; have z3 := cell_later hS p1); go_simp; (try with_reducible rfl))
          dsimp only [putT, List.toList_toArray, List.set_cons_zero, List.set_cons_succ]
          refine q_moveg 161 8 (g := ((!(!x7)) && x11)) rfl rfl (by exact (want_at rfl rfl rfl).trans (ws_t (!(!x7)) x11)) (by first | exact Or.inr rfl | exact Or.inl rfl) ?_
          dsimp only [putT, List.toList_toArray, List.set_cons_zero, List.set_cons_succ]
          refine q_if1 162 161 (g := ((!(!x7)) && x11)) (v := ?_) rfl rfl (by exact (want_at rfl rfl rfl).trans (ws_t (!(!x7)) x11)) ?_ ?_
          rotate_left
          · (intro hg A hA wS hS; (try rw [hg, sel_true] at hA); (try simp only [Bool.and_eq_true, Bool.not_eq_true', Bool.or_eq_false_iff] at hg); have hk0 := HP.out; have hwq := hwqq hg.2 hk0; go_simp; (try with_reducible rfl))
          dsimp only [putT, List.toList_toArray, List.set_cons_zero, List.set_cons_succ]
          refine q_if2 163 160 162 (g := ((!(!x7)) && x11)) (v := ?_) rfl rfl rfl (by exact (want_at rfl rfl rfl).trans (ws_t (!(!x7)) x11)) ?_ ?_
          rotate_left
          · (intro hg A hA hA2 wS hS; (try rw [hg, sel_true] at hA); (try rw [hg, sel_true] at hA2); (try simp only [Bool.and_eq_true, Bool.not_eq_true', Bool.or_eq_false_iff] at hg); skip; go_simp; (try with_reducible rfl))
          dsimp only [putT, List.toList_toArray, List.set_cons_zero, List.set_cons_succ]
          refine q_if1 164 163 (g := ((!(!x7)) && x11)) (v := ?_) rfl rfl (by exact (want_at rfl rfl rfl).trans (ws_t (!(!x7)) x11)) ?_ ?_
          rotate_left
          · (intro hg A hA wS hS; (try rw [hg, sel_true] at hA); (try simp only [Bool.and_eq_true, Bool.not_eq_true', Bool.or_eq_false_iff] at hg); (obtain ⟨s0, s1, s2, r0, r1, r2, r3, r4, r5⟩ := HKs.out.keep hS; rw [HE3.out] at r5; have z0 := cell_later hS g0; have z1 := cell_later hS g1; have z2 := cell_later hS p0; have z3 := cell_later hS p1); go_simp; (try with_reducible rfl))
          dsimp only [putT, List.toList_toArray, List.set_cons_zero, List.set_cons_succ]
          refine q_if1 165 5 (g := ((!(!x7)) && x11)) (v := ?_) rfl rfl (by exact (want_at rfl rfl rfl).trans (ws_t (!(!x7)) x11)) ?_ ?_
          rotate_left
          · (intro hg A hA wS hS; (try rw [hg, sel_true] at hA); (try simp only [Bool.and_eq_true, Bool.not_eq_true', Bool.or_eq_false_iff] at hg); skip; go_simp; (try with_reducible rfl))
          dsimp only [putT, List.toList_toArray, List.set_cons_zero, List.set_cons_succ]
          refine q_if1 166 165 (g := ((!(!x7)) && x11)) (v := ?_) rfl rfl (by exact (want_at rfl rfl rfl).trans (ws_t (!(!x7)) x11)) ?_ ?_
          rotate_left
          · (intro hg A hA wS hS; (try rw [hg, sel_true] at hA); (try simp only [Bool.and_eq_true, Bool.not_eq_true', Bool.or_eq_false_iff] at hg); (obtain ⟨s0, s1, s2, r0, r1, r2, r3, r4, r5⟩ := HKs.out.keep hS; rw [HE3.out] at r5; have z0 := cell_later hS g0; have z1 := cell_later hS g1; have z2 := cell_later hS p0; have z3 := cell_later hS p1); go_simp; (try with_reducible rfl))
          dsimp only [putT, List.toList_toArray, List.set_cons_zero, List.set_cons_succ]
          refine q_moveg 167 8 (g := ((!(!x7)) && x11)) rfl rfl (by exact (want_at rfl rfl rfl).trans (ws_t (!(!x7)) x11)) (by first | exact Or.inr rfl | exact Or.inl rfl) ?_
          dsimp only [putT, List.toList_toArray, List.set_cons_zero, List.set_cons_succ]
          refine q_if2 168 166 167 (g := ((!(!x7)) && x11)) (v := ?_) rfl rfl rfl (by exact (want_at rfl rfl rfl).trans (ws_t (!(!x7)) x11)) ?_ ?_
          rotate_left
          · (intro hg A hA hA2 wS hS; (try rw [hg, sel_true] at hA); (try rw [hg, sel_true] at hA2); (try simp only [Bool.and_eq_true, Bool.not_eq_true', Bool.or_eq_false_iff] at hg); skip; go_simp; (try with_reducible rfl))
          dsimp only [putT, List.toList_toArray, List.set_cons_zero, List.set_cons_succ]
          refine q_if1 169 168 (g := ((!(!x7)) && x11)) (v := ?_) rfl rfl (by exact (want_at rfl rfl rfl).trans (ws_t (!(!x7)) x11)) ?_ ?_
          rotate_left
          · (intro hg A hA wS hS; (try rw [hg, sel_true] at hA); (try simp only [Bool.and_eq_true, Bool.not_eq_true', Bool.or_eq_false_iff] at hg); (obtain ⟨s0, s1, s2, r0, r1, r2, r3, r4, r5⟩ := HKs.out.keep hS; rw [HE3.out] at r5; have z0 := cell_later hS g0; have z1 := cell_later hS g1; have z2 := cell_later hS p0; have z3 := cell_later hS p1); go_simp; (try with_reducible rfl))
          dsimp only [putT, List.toList_toArray, List.set_cons_zero, List.set_cons_succ]
          refine q_callif 170 70 (g := ((!(!x7)) && x11)) (v := .bool x24) (args := ?_) rfl (by exact (want_at rfl rfl rfl).trans (ws_t (!(!x7)) x11)) ?_ ?_ ?_
          rotate_left 1
          · (intro hg wS hS; (try simp only [hg, sel_true]); (try simp only [Bool.and_eq_true, Bool.not_eq_true', Bool.or_eq_false_iff] at hg); go_simp; (try with_reducible rfl))
          · (intro hg wS hS; (try simp only [Bool.and_eq_true, Bool.not_eq_true', Bool.or_eq_false_iff] at hg); refine (rless_any u t _).mono ?_; (rw [hx24]; rintro e w2 ⟨rfl, hb2⟩; exact ⟨rfl, Below.next hS hb2⟩))
          dsimp only [putT, List.toList_toArray, List.set_cons_zero, List.set_cons_succ]
          refine q_if1 171 170 (g := ((!(!x7)) && x11)) (v := ?_) rfl rfl (by exact (want_at rfl rfl rfl).trans (ws_t (!(!x7)) x11)) ?_ ?_
          rotate_left
          · (intro hg A hA wS hS; (try rw [hg, sel_true] at hA); (try simp only [Bool.and_eq_true, Bool.not_eq_true', Bool.or_eq_false_iff] at hg); skip; go_simp; (try with_reducible rfl))
          dsimp only [putT, List.toList_toArray, List.set_cons_zero, List.set_cons_succ]
          refine q_pickAG 172 158 171 (g := (!(!x7))) (v := .bool (x11 && (!x24))) rfl rfl rfl rfl (by exact (want_at rfl rfl rfl).trans (wb_f (!x7))) (fun hg => pk_gand (!(!x7)) x11 (!x24) hg) ?_
          dsimp only [putT, List.toList_toArray, List.set_cons_zero, List.set_cons_succ]
          refine q_pick 173 155 172 (v := .bool ((!x7) || (x11 && (!x24)))) rfl rfl rfl rfl rfl (pk_or (!x7) (x11 && (!x24))) ?_
          dsimp only [putT, List.toList_toArray, List.set_cons_zero, List.set_cons_succ]
          refine wpQuiet_nil ?_
          intro wS hS
          rw [HV.out]
          have hB2 := Below.next HB.out (Below.next hBs hS)
          have hBr2 := Below.next hBs hS
          by_cases hok : okK tks kps k2
          · rw [yb hok]
            have HOK := Lib.hid hok
            clear hok hx7 hx11 hx11' hx24 g0 g1 p0 p1
            go_wp2_with fail
            go_roundw
            case rel => exact ⟨k2 + 1, by omega, by go_num, hBr2, fun j hj => by
              by_cases hjk : j = k2
              · subst hjk; exact HOK.out
              · exact HZ1.out j (by omega)⟩
            case measure => simp [intOf]; omega
          · rw [nb hok]
            obtain rfl : r = false := by rw [← HR.out]; exact nb (fun hg => hok (hg.2.2.2 k2 (by rw [HN2.out]; exact hlt)))
            clear hok hx7 hx11 hx11' hx24 g0 g1 p0 p1
            go_wp2_with fail
            go_ret
            exact ⟨rfl, hB2⟩
        · obtain rfl : k2 = N2 := by omega
          have d2 : decide ((k2 : Int) < (k2 : Int)) = false := nb (by omega)
          obtain ⟨s0, s1, s2, r0, r1, r2, r3, r4, r5⟩ := HKs.out
          rw [HE2.out] at r5
          obtain rfl : r = true := by
            rw [← HR.out]
            exact yb ⟨HB1.out, HB2.out, fun j hj => HZ0.out j (by rw [HN1.out] at hj; exact hj), fun j hj => HZ1.out j (by rw [HN2.out] at hj; exact hj)⟩
          go_wp2_with fail
          go_ret
          exact ⟨rfl, Below.next HB.out hBs⟩
end Go.Proofs.Ytnkpjfogjkjcfaa
