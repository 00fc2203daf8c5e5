


/- Timers of one's own behind a pointer: length, comparison, exchange. -/
import Derived.Test.YtigmhglkohjlhaaM
import Derived.Test.YtigmhglkohjlhaaRS
namespace Go.Proofs.Ytigmhglkohjlhaa
open Go.RowKit
set_option linter.unusedSimpArgs false
set_option linter.unusedVariables false
set_option maxRecDepth 100000

/-- timers of one's own: the header's box and the row -/
structure TM (w : World) (base P : Nat) (v : Value) (l : List Tm) : Prop where
  box : BoxN w P 53 #[v]
  row : w.ownsRow base 41 5 v l.length (rcs tmR l)
  len : l.length ≤ 100000
  ge : base ≤ P
/-- the blocks that a call at the timers may change -/
def Xs (P : Nat) (v : Value) (k : Nat) : Prop := k = P ∨ v.ownBlock = some k
theorem TM.keep {w w' : World} {base P : Nat} {v : Value} {l : List Tm} (h : TM w base P v l) (hb : Below w.heap.size w w') : TM w' base P v l :=
  ⟨h.box.below hb, OwM.keep h.row hb, h.len, h.ge⟩
theorem TM.ne {w : World} {base P : Nat} {v : Value} {l : List Tm} (h : TM w base P v l) {q : Nat} (hq : v.ownBlock = some q) : P ≠ q := by
  intro he
  subst he
  have h1 := h.box
  rcases h.row.2 with ⟨rfl, _⟩ | ⟨g, cap, cur, rfl, _, hh, _⟩
  · simp [Value.ownBlock] at hq
  · simp only [Value.ownBlock, Option.some.injEq] at hq
    subst hq
    unfold BoxN at h1
    rw [h1] at hh
    simp at hh
theorem TM.form {w : World} {base P : Nat} {v : Value} {l : List Tm} (h : TM w base P v l) : ∃ a c, v = .slice a l.length c := by
  rcases h.row.2 with ⟨rfl, h0⟩ | ⟨g, cap, cur, rfl, _⟩
  · exact ⟨none, 0, by rw [h0]⟩
  · exact ⟨_, _, rfl⟩
theorem len_any (w : World) (base P : Nat) (v : Value) (l : List Tm) (h : TM w base P v l) : Calls Try.prog 106 #[.pointer (some ⟨P, 0, none⟩)] w fun x w' => x = .returned (.int .i64 (l.length : Int)) ∧ w = w' := by
  obtain ⟨a, c, rfl⟩ := h.form
  obtain ⟨N, hN⟩ : ∃ N, l.length = N := ⟨_, rfl⟩
  have h0 : w.cell? ⟨P, 0, none⟩ = some (.slice a N c) := by rw [← hN]; exact (h.box.cell 0).trans rfl
  rw [hN]
  clear h hN
  go_enter Try.func106, Try.ntmps106
  go_wp2_with fail
  go_ret
  exact ⟨rfl, rfl⟩
set_option maxHeartbeats 2000000 in
theorem less_any (w : World) (base P : Nat) (v : Value) (l : List Tm) (i j : Nat) (hi : i < l.length) (hj : j < l.length) (h : TM w base P v l) : Calls Try.prog 107 #[.pointer (some ⟨P, 0, none⟩), .int .i64 (i : Int), .int .i64 (j : Int)] w fun x w' => x = .returned (.bool (decide (ltT (g l i) (g l j)))) ∧ Below w.heap.size w w' := by
  obtain ⟨a, c, rfl⟩ := h.form
  obtain ⟨N, hN⟩ : ∃ N, l.length = N := ⟨_, rfl⟩
  have hlen := h.len
  have hrow := h.row
  have hbox := h.box
  rw [hN] at hlen hrow hi hj hbox
  obtain ⟨q, rfl, hq1, hq2⟩ := OwM.addr hrow (by omega)
  have h0 : w.cell? ⟨P, 0, none⟩ = some (.slice (some ⟨q, 0, none⟩) N c) := (hbox.cell 0).trans rfl
  obtain ⟨g0, g1, g2, g3, g4⟩ := OwM.at hrow hN i hi
  obtain ⟨p0, p1, p2, p3, p4⟩ := OwM.at hrow hN j hj
  obtain ⟨t, HT⟩ : ∃ t, Hid (g l i = t) := ⟨_, rfl⟩
  obtain ⟨u, HU⟩ : ∃ u, Hid (g l j = u) := ⟨_, rfl⟩
  rw [HT.out] at g0 g1 g2 g3 g4
  rw [HU.out] at p0 p1 p2 p3 p4
  rw [HT.out, HU.out]
  have i1 : (0 : Int) ≤ (i : Int) := by omega
  have i2 : (i : Int) < (N : Int) := by omega
  have hwi : IntKind.i64.wrap (i : Int) = (i : Int) := IntWalk.i64_in _ (by omega)
  have j1 : (0 : Int) ≤ (j : Int) := by omega
  have j2 : (j : Int) < (N : Int) := by omega
  have hwj : IntKind.i64.wrap (j : Int) = (j : Int) := IntWalk.i64_in _ (by omega)
  have hc : decide (cmpT t u < 0) = decide (ltT t u) := decide_eq_decide.2 (cmpT_lt t u)
  obtain ⟨r, HRr⟩ : ∃ r, Hid (cmpT t u = r) := ⟨_, rfl⟩
  rw [HRr.out] at hc
  clear h hN hlen hrow hbox
  go_enter Try.func107, Try.ntmps107
  go_upto_region 1 with fail
  refine wp_region_calm (fun w' => Below w.heap.size w w') 99 (by kernel_rfl) ((Below.refl _ w).drew) ?_
  refine cm_run 0 7 (v := ?_) rfl rfl (by kernel_rfl) (by kernel_rfl) (by kernel_rfl) (by kernel_rfl) (by kernel_rfl) (fun _ _ _ h => h) (by rfl) ?_ ?_
  rotate_left
  · (intro wS hS; skip; go_simp; (try with_reducible rfl))
  simp only [List.setIfInBounds_toArray, List.set_cons_zero, List.set_cons_succ]
  refine cm_run 1 8 (v := ?_) rfl rfl (by kernel_rfl) (by kernel_rfl) (by kernel_rfl) (by kernel_rfl) (by kernel_rfl) (fun _ _ _ h => h) (by rfl) ?_ ?_
  rotate_left
  · (intro wS hS; skip; go_simp; (try with_reducible rfl))
  simp only [List.setIfInBounds_toArray, List.set_cons_zero, List.set_cons_succ]
  refine cm_run 2 9 (v := ?_) rfl rfl (by kernel_rfl) (by kernel_rfl) (by kernel_rfl) (by kernel_rfl) (by kernel_rfl) (fun _ _ _ h => h) (by rfl) ?_ ?_
  rotate_left
  · (intro wS hS; have hg := cell_later hS h0; go_simp; (try with_reducible rfl))
  simp only [List.setIfInBounds_toArray, List.set_cons_zero, List.set_cons_succ]
  refine cm_run 3 10 (v := ?_) rfl rfl (by kernel_rfl) (by kernel_rfl) (by kernel_rfl) (by kernel_rfl) (by kernel_rfl) (fun _ _ _ h => h) (by rfl) ?_ ?_
  rotate_left
  · (intro wS hS; skip; go_simp; (try with_reducible rfl))
  simp only [List.setIfInBounds_toArray, List.set_cons_zero, List.set_cons_succ]
  refine cm_run 4 11 (v := ?_) rfl rfl (by kernel_rfl) (by kernel_rfl) (by kernel_rfl) (by kernel_rfl) (by kernel_rfl) (fun _ _ _ h => h) (by rfl) ?_ ?_
  rotate_left
  · (intro wS hS; skip; go_simp; (try with_reducible rfl))
  simp only [List.setIfInBounds_toArray, List.set_cons_zero, List.set_cons_succ]
  refine cm_run 5 12 (v := ?_) rfl rfl (by kernel_rfl) (by kernel_rfl) (by kernel_rfl) (by kernel_rfl) (by kernel_rfl) (fun _ _ _ h => h) (by rfl) ?_ ?_
  rotate_left
  · (intro wS hS; (have x0 := cell_later hS g0; have x1 := cell_later hS g1; have x2 := cell_later hS g2; have x3 := cell_later hS g3; have x4 := cell_later hS g4); go_simp; (try with_reducible rfl))
  simp only [List.setIfInBounds_toArray, List.set_cons_zero, List.set_cons_succ]
  refine cm_run 6 13 (v := ?_) rfl rfl (by kernel_rfl) (by kernel_rfl) (by kernel_rfl) (by kernel_rfl) (by kernel_rfl) (fun _ _ _ h => h) (by rfl) ?_ ?_
  rotate_left
  · (intro wS hS; skip; go_simp; (try with_reducible rfl))
  simp only [List.setIfInBounds_toArray, List.set_cons_zero, List.set_cons_succ]
  refine cm_run 7 14 (v := ?_) rfl rfl (by kernel_rfl) (by kernel_rfl) (by kernel_rfl) (by kernel_rfl) (by kernel_rfl) (fun _ _ _ h => h) (by rfl) ?_ ?_
  rotate_left
  · (intro wS hS; skip; go_simp; (try with_reducible rfl))
  simp only [List.setIfInBounds_toArray, List.set_cons_zero, List.set_cons_succ]
  refine cm_run 8 15 (v := ?_) rfl rfl (by kernel_rfl) (by kernel_rfl) (by kernel_rfl) (by kernel_rfl) (by kernel_rfl) (fun _ _ _ h => h) (by rfl) ?_ ?_
  rotate_left
  · (intro wS hS; have hg := cell_later hS h0; go_simp; (try with_reducible rfl))
  simp only [List.setIfInBounds_toArray, List.set_cons_zero, List.set_cons_succ]
  refine cm_run 9 16 (v := ?_) rfl rfl (by kernel_rfl) (by kernel_rfl) (by kernel_rfl) (by kernel_rfl) (by kernel_rfl) (fun _ _ _ h => h) (by rfl) ?_ ?_
  rotate_left
  · (intro wS hS; skip; go_simp; (try with_reducible rfl))
  simp only [List.setIfInBounds_toArray, List.set_cons_zero, List.set_cons_succ]
  refine cm_run 10 17 (v := ?_) rfl rfl (by kernel_rfl) (by kernel_rfl) (by kernel_rfl) (by kernel_rfl) (by kernel_rfl) (fun _ _ _ h => h) (by rfl) ?_ ?_
  rotate_left
  · (intro wS hS; skip; go_simp; (try with_reducible rfl))
  simp only [List.setIfInBounds_toArray, List.set_cons_zero, List.set_cons_succ]
  refine cm_run 11 18 (v := ?_) rfl rfl (by kernel_rfl) (by kernel_rfl) (by kernel_rfl) (by kernel_rfl) (by kernel_rfl) (fun _ _ _ h => h) (by rfl) ?_ ?_
  rotate_left
  · (intro wS hS; (have x0 := cell_later hS p0; have x1 := cell_later hS p1; have x2 := cell_later hS p2; have x3 := cell_later hS p3; have x4 := cell_later hS p4); go_simp; (try with_reducible rfl))
  simp only [List.setIfInBounds_toArray, List.set_cons_zero, List.set_cons_succ]
  refine cm_call 12 19 37 (v := .int .i64 r) (args := ?_) rfl rfl (by kernel_rfl) (by kernel_rfl) (by kernel_rfl) (by kernel_rfl) (by kernel_rfl) (fun _ _ _ h => h) (by rfl) ?_ ?_ ?_
  rotate_left 1
  · (intro wS hS; go_simp; (try with_reducible rfl))
  · (intro wS hS; refine (compare_any t u _).mono ?_; (rw [HRr.out]; rintro e w2 ⟨rfl, hb⟩; exact ⟨rfl, Below.next hS hb⟩))
  simp only [List.setIfInBounds_toArray, List.set_cons_zero, List.set_cons_succ]
  refine cm_run 13 20 (v := ?_) rfl rfl (by kernel_rfl) (by kernel_rfl) (by kernel_rfl) (by kernel_rfl) (by kernel_rfl) (fun _ _ _ h => h) (by rfl) ?_ ?_
  rotate_left
  · (intro wS hS; skip; go_simp; (try with_reducible rfl))
  simp only [List.setIfInBounds_toArray, List.set_cons_zero, List.set_cons_succ]
  refine cm_run 14 6 (v := ?_) rfl rfl (by kernel_rfl) (by kernel_rfl) (by kernel_rfl) (by kernel_rfl) (by kernel_rfl) (fun _ _ _ h => h) (by rfl) ?_ ?_
  rotate_left
  · (intro wS hS; skip; go_simp; (try with_reducible rfl))
  simp only [List.setIfInBounds_toArray, List.set_cons_zero, List.set_cons_succ]
  refine cm_done (by kernel_rfl) ?_
  intro wS hS
  refine NoPanic.normal ?_
  clear g0 g1 g2 g3 g4 p0 p1 p2 p3 p4 h0
  go_wp2_with fail
  go_ret
  exact ⟨by rw [← hc]; rfl, hS⟩
set_option maxHeartbeats 8000000 in
theorem swap_any (w : World) (base P : Nat) (v : Value) (l : List Tm) (i j : Nat) (hi : i < l.length) (hj : j < l.length) (h : TM w base P v l) : Calls Try.prog 110 #[.pointer (some ⟨P, 0, none⟩), .int .i64 (i : Int), .int .i64 (j : Int)] w fun x w' => x = .returned (.tuple #[]) ∧ TM w' base P v (swp l i j) ∧ Kx (fun k => v.ownBlock = some k) w w' := by
  have hne := fun q => h.ne (q := q)
  obtain ⟨a, c, rfl⟩ := h.form
  obtain ⟨N, hN⟩ : ∃ N, l.length = N := ⟨_, rfl⟩
  have hlen := h.len
  have hrow := h.row
  have hbox := h.box
  rw [hN] at hlen hrow hi hj hbox
  obtain ⟨q, rfl, hq1, hq2⟩ := OwM.addr hrow (by omega)
  have hPq : P ≠ q := hne q rfl
  have h0 : w.cell? ⟨P, 0, none⟩ = some (.slice (some ⟨q, 0, none⟩) N c) := (hbox.cell 0).trans rfl
  obtain ⟨g0, g1, g2, g3, g4⟩ := OwM.at hrow hN i hi
  obtain ⟨p0, p1, p2, p3, p4⟩ := OwM.at hrow hN j hj
  obtain ⟨t, HT⟩ : ∃ t, Hid (g l i = t) := ⟨_, rfl⟩
  obtain ⟨u, HU⟩ : ∃ u, Hid (g l j = u) := ⟨_, rfl⟩
  rw [HT.out] at g0 g1 g2 g3 g4
  rw [HU.out] at p0 p1 p2 p3 p4
  obtain ⟨W, hW⟩ : ∃ W : World, W = w.drew := ⟨_, rfl⟩
  have hdr : Below w.heap.size w W := by rw [hW]; exact (Below.refl _ w).drew
  have hboxW := hbox.below hdr
  have hrowW := OwM.keep hrow hdr
  have hti := OwM.there hrowW hN i hi
  have hth : (W.setCells q (i * 5) (Tm.cs u)).there q (j * 5) 5 := OwM.there (OwM.set hrowW hN i hi u) (by rw [List.length_set]; exact hN) j hj
  have hz0 : (W.setCells q (i * 5) (Tm.cs u)).cell? ⟨P, 0, none⟩ = some (.slice (some ⟨q, 0, none⟩) N c) := (Kx.setCells (X := fun k => k = q) (Kx.refl _ W) (.inl rfl) (i * 5) (Tm.cs u)).cell (p := ⟨P, 0, none⟩) (fun e => hPq e) ((hboxW.cell 0).trans rfl)
  have hz1 : ((W.setCells q (i * 5) (Tm.cs u)).setCells q (j * 5) (Tm.cs t)).cell? ⟨P, 0, none⟩ = some (.slice (some ⟨q, 0, none⟩) N c) := (Kx.setCells (X := fun k => k = q) (Kx.refl _ (W.setCells q (i * 5) (Tm.cs u))) (.inl rfl) (j * 5) (Tm.cs t)).cell (p := ⟨P, 0, none⟩) (fun e => hPq e) hz0
  have HFIN : Hid (TM ((W.setCells q (i * 5) (Tm.cs u)).setCells q (j * 5) (Tm.cs t)) base P (.slice (some ⟨q, 0, none⟩) N c) (swp l i j) ∧ Kx (fun k => (Value.slice (some ⟨q, 0, none⟩) N c).ownBlock = some k) w ((W.setCells q (i * 5) (Tm.cs u)).setCells q (j * 5) (Tm.cs t))) := by
    have hk : Kx (fun k => (Value.slice (some ⟨q, 0, none⟩) N c).ownBlock = some k) w ((W.setCells q (i * 5) (Tm.cs u)).setCells q (j * 5) (Tm.cs t)) := Kx.setCells (X := fun k => (Value.slice (some ⟨q, 0, none⟩) N c).ownBlock = some k) (Kx.setCells (X := fun k => (Value.slice (some ⟨q, 0, none⟩) N c).ownBlock = some k) (Kx.of_below hdr) (.inl rfl) _ _) (.inl rfl) _ _
    refine ⟨⟨hk.box (fun e => by have e2 : some q = some P := e; simp only [Option.some.injEq] at e2; exact hPq e2.symm) hbox, ?_, by rw [swp_len, hN]; exact hlen, h.ge⟩, hk⟩
    rw [swp_len, hN]
    have h1 := OwM.set hrowW hN i hi u
    have h2 := OwM.set h1 (by rw [List.length_set]; exact hN) j hj t
    unfold swp
    rw [HU.out, HT.out]
    exact h2
  have i1 : (0 : Int) ≤ (i : Int) := by omega
  have i2 : (i : Int) < (N : Int) := by omega
  have hwi : IntKind.i64.wrap (i : Int) = (i : Int) := IntWalk.i64_in _ (by omega)
  have j1 : (0 : Int) ≤ (j : Int) := by omega
  have j2 : (j : Int) < (N : Int) := by omega
  have hwj : IntKind.i64.wrap (j : Int) = (j : Int) := IntWalk.i64_in _ (by omega)
  rw [hN]
  clear h hN hlen hrow hbox hne hrowW hboxW hdr
  rw [hW] at hti hth hz0 hz1 HFIN
  clear hW
  go_enter Try.func110, Try.ntmps110
  go_upto_region 0 with fail
  refine wp_region_noPanic ?_
  refine wp_region_late (fun w' => w'.cell? ⟨P, 0, none⟩ = some (.slice (some ⟨q, 0, none⟩) N c)) (fun w' => Below w.heap.size w w') [21, 23] (by kernel_rfl) h0 ((Below.refl _ w).drew) (fun hHeld0 hHeld => ?_)
  refine reg0_tk (v := ?_) 0 6 rfl rfl (by kernel_rfl) (by kernel_rfl) (by kernel_rfl) (by kernel_rfl) (by kernel_rfl) (fun _ _ _ h => h) (by rfl) ?_ (by assumption) (by assumption) ?_
  rotate_left
  · (intro w3 hS; (try dsimp only at hS); skip; go_simp; (try with_reducible rfl))
  simp only [List.setIfInBounds_toArray, List.set_cons_zero, List.set_cons_succ]
  refine reg0_tk (v := ?_) 1 7 rfl rfl (by kernel_rfl) (by kernel_rfl) (by kernel_rfl) (by kernel_rfl) (by kernel_rfl) (fun _ _ _ h => h) (by rfl) ?_ (by assumption) (by assumption) ?_
  rotate_left
  · (intro w3 hS; (try dsimp only at hS); skip; go_simp; (try with_reducible rfl))
  simp only [List.setIfInBounds_toArray, List.set_cons_zero, List.set_cons_succ]
  refine reg0_tk (v := ?_) 2 8 rfl rfl (by kernel_rfl) (by kernel_rfl) (by kernel_rfl) (by kernel_rfl) (by kernel_rfl) (fun _ _ _ h => h) (by rfl) ?_ (by assumption) (by assumption) ?_
  rotate_left
  · (intro w3 hS; (try dsimp only at hS); skip; go_simp; (try with_reducible rfl))
  simp only [List.setIfInBounds_toArray, List.set_cons_zero, List.set_cons_succ]
  refine reg0_tk (v := ?_) 3 9 rfl rfl (by kernel_rfl) (by kernel_rfl) (by kernel_rfl) (by kernel_rfl) (by kernel_rfl) (fun _ _ _ h => h) (by rfl) ?_ (by assumption) (by assumption) ?_
  rotate_left
  · (intro w3 hS; (try dsimp only at hS); skip; go_simp; (try with_reducible rfl))
  simp only [List.setIfInBounds_toArray, List.set_cons_zero, List.set_cons_succ]
  refine reg0_tk (v := ?_) 4 10 rfl rfl (by kernel_rfl) (by kernel_rfl) (by kernel_rfl) (by kernel_rfl) (by kernel_rfl) (fun _ _ _ h => h) (by rfl) ?_ (by assumption) (by assumption) ?_
  rotate_left
  · (intro w3 hS; (try dsimp only at hS); skip; go_simp; (try with_reducible rfl))
  simp only [List.setIfInBounds_toArray, List.set_cons_zero, List.set_cons_succ]
  refine reg0_tk (v := ?_) 5 11 rfl rfl (by kernel_rfl) (by kernel_rfl) (by kernel_rfl) (by kernel_rfl) (by kernel_rfl) (fun _ _ _ h => h) (by rfl) ?_ (by assumption) (by assumption) ?_
  rotate_left
  · (intro w3 hS; (try dsimp only at hS); skip; go_simp; (try with_reducible rfl))
  simp only [List.setIfInBounds_toArray, List.set_cons_zero, List.set_cons_succ]
  refine reg0_tk (v := ?_) 6 12 rfl rfl (by kernel_rfl) (by kernel_rfl) (by kernel_rfl) (by kernel_rfl) (by kernel_rfl) (fun _ _ _ h => h) (by rfl) ?_ (by assumption) (by assumption) ?_
  rotate_left
  · (intro w3 hS; (try dsimp only at hS); skip; go_simp; (try with_reducible rfl))
  simp only [List.setIfInBounds_toArray, List.set_cons_zero, List.set_cons_succ]
  refine reg0_tk (v := ?_) 7 13 rfl rfl (by kernel_rfl) (by kernel_rfl) (by kernel_rfl) (by kernel_rfl) (by kernel_rfl) (fun _ _ _ h => h) (by rfl) ?_ (by assumption) (by assumption) ?_
  rotate_left
  · (intro w3 hS; (try dsimp only at hS); skip; go_simp; (try with_reducible rfl))
  simp only [List.setIfInBounds_toArray, List.set_cons_zero, List.set_cons_succ]
  refine reg0_tk (v := ?_) 8 14 rfl rfl (by kernel_rfl) (by kernel_rfl) (by kernel_rfl) (by kernel_rfl) (by kernel_rfl) (fun _ _ _ h => h) (by rfl) ?_ (by assumption) (by assumption) ?_
  rotate_left
  · (intro w3 hS; (try dsimp only at hS); skip; go_simp; (try with_reducible rfl))
  simp only [List.setIfInBounds_toArray, List.set_cons_zero, List.set_cons_succ]
  refine reg0_tk (v := ?_) 9 15 rfl rfl (by kernel_rfl) (by kernel_rfl) (by kernel_rfl) (by kernel_rfl) (by kernel_rfl) (fun _ _ _ h => h) (by rfl) ?_ (by assumption) (by assumption) ?_
  rotate_left
  · (intro w3 hS; (try dsimp only at hS); skip; go_simp; (try with_reducible rfl))
  simp only [List.setIfInBounds_toArray, List.set_cons_zero, List.set_cons_succ]
  refine reg0_tk (v := ?_) 10 16 rfl rfl (by kernel_rfl) (by kernel_rfl) (by kernel_rfl) (by kernel_rfl) (by kernel_rfl) (fun _ _ _ h => h) (by rfl) ?_ (by assumption) (by assumption) ?_
  rotate_left
  · (intro w3 hS; (try dsimp only at hS); skip; go_simp; (try with_reducible rfl))
  simp only [List.setIfInBounds_toArray, List.set_cons_zero, List.set_cons_succ]
  refine reg0_tk (v := ?_) 11 17 rfl rfl (by kernel_rfl) (by kernel_rfl) (by kernel_rfl) (by kernel_rfl) (by kernel_rfl) (fun _ _ _ h => h) (by rfl) ?_ (by assumption) (by assumption) ?_
  rotate_left
  · (intro w3 hS; (try dsimp only at hS); skip; go_simp; (try with_reducible rfl))
  simp only [List.setIfInBounds_toArray, List.set_cons_zero, List.set_cons_succ]
  refine reg0_tk (v := ?_) 12 18 rfl rfl (by kernel_rfl) (by kernel_rfl) (by kernel_rfl) (by kernel_rfl) (by kernel_rfl) (fun _ _ _ h => h) (by rfl) ?_ (by assumption) (by assumption) ?_
  rotate_left
  · (intro w3 hS; (try dsimp only at hS); skip; go_simp; (try with_reducible rfl))
  simp only [List.setIfInBounds_toArray, List.set_cons_zero, List.set_cons_succ]
  refine regG_tk (v := ?_) 13 19 rfl rfl (by kernel_rfl) (by kernel_rfl) (by kernel_rfl) (by kernel_rfl) (by kernel_rfl) (fun _ _ _ h => h) (by rfl) ?_ (by assumption) (by assumption) ?_
  rotate_left
  · (intro w3 hS; (try dsimp only at hS); (have x0 := cell_later hS p0; have x1 := cell_later hS p1; have x2 := cell_later hS p2; have x3 := cell_later hS p3; have x4 := cell_later hS p4); go_simp; (try with_reducible rfl))
  simp only [List.setIfInBounds_toArray, List.set_cons_zero, List.set_cons_succ]
  refine reg0_tk (v := ?_) 14 20 rfl rfl (by kernel_rfl) (by kernel_rfl) (by kernel_rfl) (by kernel_rfl) (by kernel_rfl) (fun _ _ _ h => h) (by rfl) ?_ (by assumption) (by assumption) ?_
  rotate_left
  · (intro w3 hS; (try dsimp only at hS); skip; go_simp; (try with_reducible rfl))
  simp only [List.setIfInBounds_toArray, List.set_cons_zero, List.set_cons_succ]
  refine reg0_tk (v := ?_) 15 21 rfl rfl (by kernel_rfl) (by kernel_rfl) (by kernel_rfl) (by kernel_rfl) (by kernel_rfl) (fun _ _ _ h => h) (by rfl) ?_ (by assumption) (by assumption) ?_
  rotate_left
  · (intro w3 hS; (try dsimp only at hS); skip; go_simp; (try with_reducible rfl))
  simp only [List.setIfInBounds_toArray, List.set_cons_zero, List.set_cons_succ]
  refine reg0_tk (v := ?_) 16 22 rfl rfl (by kernel_rfl) (by kernel_rfl) (by kernel_rfl) (by kernel_rfl) (by kernel_rfl) (fun _ _ _ h => h) (by rfl) ?_ (by assumption) (by assumption) ?_
  rotate_left
  · (intro w3 hS; (try dsimp only at hS); skip; go_simp; (try with_reducible rfl))
  simp only [List.setIfInBounds_toArray, List.set_cons_zero, List.set_cons_succ]
  refine reg0_tk (v := ?_) 17 23 rfl rfl (by kernel_rfl) (by kernel_rfl) (by kernel_rfl) (by kernel_rfl) (by kernel_rfl) (fun _ _ _ h => h) (by rfl) ?_ (by assumption) (by assumption) ?_
  rotate_left
  · (intro w3 hS; (try dsimp only at hS); skip; go_simp; (try with_reducible rfl))
  simp only [List.setIfInBounds_toArray, List.set_cons_zero, List.set_cons_succ]
  refine reg0_tk (v := ?_) 18 24 rfl rfl (by kernel_rfl) (by kernel_rfl) (by kernel_rfl) (by kernel_rfl) (by kernel_rfl) (fun _ _ _ h => h) (by rfl) ?_ (by assumption) (by assumption) ?_
  rotate_left
  · (intro w3 hS; (try dsimp only at hS); skip; go_simp; (try with_reducible rfl))
  simp only [List.setIfInBounds_toArray, List.set_cons_zero, List.set_cons_succ]
  refine regG_tk (v := ?_) 19 25 rfl rfl (by kernel_rfl) (by kernel_rfl) (by kernel_rfl) (by kernel_rfl) (by kernel_rfl) (fun _ _ _ h => h) (by rfl) ?_ (by assumption) (by assumption) ?_
  rotate_left
  · (intro w3 hS; (try dsimp only at hS); (have x0 := cell_later hS g0; have x1 := cell_later hS g1; have x2 := cell_later hS g2; have x3 := cell_later hS g3; have x4 := cell_later hS g4); go_simp; (try with_reducible rfl))
  simp only [List.setIfInBounds_toArray, List.set_cons_zero, List.set_cons_succ]
  refine reg0_tk (v := ?_) 20 26 rfl rfl (by kernel_rfl) (by kernel_rfl) (by kernel_rfl) (by kernel_rfl) (by kernel_rfl) (fun _ _ _ h => h) (by rfl) ?_ (by assumption) (by assumption) ?_
  rotate_left
  · (intro w3 hS; (try dsimp only at hS); skip; go_simp; (try with_reducible rfl))
  simp only [List.setIfInBounds_toArray, List.set_cons_zero, List.set_cons_succ]
  refine wpAnyG_one (i := 21) (by kernel_rfl) rfl (by rfl) (by kernel_rfl) (fun K hK => ?_)
  refine wp_store_tm (.tmp 26) (.tmp 19) rfl q (i * 5) u rfl rfl hti ?_
  refine hK _ _ hz0 ?_
  clear hK K
  try simp only [Act.put, List.setIfInBounds_toArray, List.set_cons_zero, List.set_cons_succ]
  refine wpAnyG_one (i := 22) (by kernel_rfl) rfl (by rfl) (by kernel_rfl) (fun K hK => ?_)
  go_simp
  refine hK _ _ hz0 ?_
  clear hK K
  try simp only [Act.put, List.setIfInBounds_toArray, List.set_cons_zero, List.set_cons_succ]
  refine wpAnyG_one (i := 23) (by kernel_rfl) rfl (by rfl) (by kernel_rfl) (fun K hK => ?_)
  refine wp_store_tm (.tmp 27) (.tmp 25) rfl q (j * 5) t rfl rfl hth ?_
  refine hK _ _ hz1 ?_
  clear hK K
  try simp only [Act.put, List.setIfInBounds_toArray, List.set_cons_zero, List.set_cons_succ]
  refine wpAnyG_done (by kernel_rfl) ?_ _
  refine NoPanic.normal ?_
  exact bodyPost_end (results_none rfl _ _ _) rfl ⟨rfl, HFIN.out⟩
end Go.Proofs.Ytigmhglkohjlhaa
