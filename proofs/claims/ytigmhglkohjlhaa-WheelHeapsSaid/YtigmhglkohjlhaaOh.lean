


/- Timers of one's own behind a pointer: one more, one less. -/
import Derived.Test.YtigmhglkohjlhaaN
namespace Go.Proofs.Ytigmhglkohjlhaa
open Go.RowKit
set_option linter.unusedSimpArgs false
set_option linter.unusedVariables false
set_option maxRecDepth 100000

/-- what calls at the timers leave behind -/
structure TR (w : World) (P : Nat) (v : Value) (w' : World) (v' : Value) : Prop where
  kx : Kx (Xs P v) w w'
  blk : ∀ k, v'.ownBlock = some k → v.ownBlock = some k ∨ w.heap.size ≤ k
theorem TR.of_below {w w' : World} {P : Nat} {v : Value} (h : Below w.heap.size w w') : TR w P v w' v := ⟨Kx.of_below h, fun _ h => .inl h⟩
theorem TR.trans {w w1 w2 : World} {P : Nat} {v v1 v2 : Value} (h : TR w P v w1 v1) (h2 : TR w1 P v1 w2 v2) : TR w P v w2 v2 :=
  ⟨h.kx.trans h2.kx fun k hk hy => by
    rcases hy with hy | hy
    · exact .inl hy
    · rcases h.blk k hy with h3 | h3
      · exact .inr h3
      · omega, fun k hk => by
    rcases h2.blk k hk with h3 | h3
    · exact h.blk k h3
    · exact .inr (Nat.le_trans h.kx.size h3)⟩
theorem TR.next {w w1 w2 : World} {P : Nat} {v v1 : Value} (h : TR w P v w1 v1) (h2 : Below w1.heap.size w1 w2) : TR w P v w2 v1 := h.trans (TR.of_below h2)
theorem TR.below {w w' : World} {base P : Nat} {v v' : Value} {l : List Tm} (h : TR w P v w' v') (ht : TM w base P v l) : Below base w w' :=
  h.kx.below (by have := ht.ge; have := ht.box.lt; omega) (fun k hk => by
    rcases hk with rfl | hk
    · exact ht.ge
    · exact (ht.row.lt k hk).1)
theorem TR.swap {w w' : World} {P : Nat} {v : Value} (h : Kx (fun k => v.ownBlock = some k) w w') : TR w P v w' v := ⟨h.mono (fun k hk => .inr hk), fun _ h => .inl h⟩
theorem ETt : ElemOk Try.prog 53 41 (.agg #[.int .i64 0, .int .i64 0, .int .i64 0, .int .u64 0, .int .i64 0]) 5 40 := ⟨Try.underlying53, by kernel_rfl, rfl, by decide⟩
set_option maxHeartbeats 4000000 in
theorem push_any (w : World) (base P : Nat) (v : Value) (l : List Tm) (x : Tm) (hl : l.length < 100000) (h : TM w base P v l) : Calls Try.prog 109 #[.pointer (some ⟨P, 0, none⟩), .iface 41 x.v] w fun e w' => e = .returned (.tuple #[]) ∧ ∃ v', TM w' base P v' (l ++ [x]) ∧ TR w P v w' v' := by
  have hnb := fun q => h.ne (q := q)
  obtain ⟨N, hN⟩ : ∃ N, l.length = N := ⟨_, rfl⟩
  have hrow := h.row
  have hge := h.ge
  have hPl := h.box.lt
  rw [hN] at hrow hl
  have hdr : Below w.heap.size w w.drew := (Below.refl _ w).drew
  have hbox0 := h.box
  have hbox := h.box.below hdr
  have h0 : w.drew.cell? ⟨P, 0, none⟩ = some v := (hbox.cell 0).trans rfl
  have HRW := Lib.hid (OwM.keep hrow hdr)
  have hone := World.ownsRow.lt hrow
  have hta : ∀ w : World, (Instr.typeAssert (.iface 41 x.v) 20 41 false).run Try.prog w = .ok x.v w := fun w => by kernel_rfl
  clear h
  go_enter Try.func109, Try.ntmps109
  go_upto_region 0 with fail
  refine wp_region_noPanic ?_
  refine wp_region_late (fun _ => True) (fun w' => w'.cell? ⟨P, 0, none⟩ = some v) [9] (by kernel_rfl) trivial h0 (fun hHeld0 hHeld => ?_)
  refine reg0_tk (v := ?_) 0 4 rfl rfl (by kernel_rfl) (by kernel_rfl) (by kernel_rfl) (by kernel_rfl) (by kernel_rfl) (fun _ _ _ h => h) (by rfl) ?_ (by assumption) (by assumption) ?_
  rotate_left
  · (intro w3 hS; (try dsimp only at hS); skip; go_simp; (try with_reducible rfl))
  simp only [List.setIfInBounds_toArray, List.set_cons_zero, List.set_cons_succ]
  refine reg0_tk (v := ?_) 1 5 rfl rfl (by kernel_rfl) (by kernel_rfl) (by kernel_rfl) (by kernel_rfl) (by kernel_rfl) (fun _ _ _ h => h) (by rfl) ?_ (by assumption) (by assumption) ?_
  rotate_left
  · (intro w3 hS; (try dsimp only at hS); skip; go_simp; (try with_reducible rfl))
  simp only [List.setIfInBounds_toArray, List.set_cons_zero, List.set_cons_succ]
  refine reg0_tk (v := ?_) 2 6 rfl rfl (by kernel_rfl) (by kernel_rfl) (by kernel_rfl) (by kernel_rfl) (by kernel_rfl) (fun _ _ _ h => h) (by rfl) ?_ (by assumption) (by assumption) ?_
  rotate_left
  · (intro w3 hS; (try dsimp only at hS); skip; go_simp; (try with_reducible rfl))
  simp only [List.setIfInBounds_toArray, List.set_cons_zero, List.set_cons_succ]
  refine regG_tk (v := ?_) 3 7 rfl rfl (by kernel_rfl) (by kernel_rfl) (by kernel_rfl) (by kernel_rfl) (by kernel_rfl) (fun _ _ _ h => h) (by rfl) ?_ (by assumption) (by assumption) ?_
  rotate_left
  · (intro w3 hS; (try dsimp only at hS); skip; go_simp; (try with_reducible rfl))
  simp only [List.setIfInBounds_toArray, List.set_cons_zero, List.set_cons_succ]
  refine reg0_tk (v := ?_) 4 8 rfl rfl (by kernel_rfl) (by kernel_rfl) (by kernel_rfl) (by kernel_rfl) (by kernel_rfl) (fun _ _ _ h => h) (by rfl) ?_ (by assumption) (by assumption) ?_
  rotate_left
  · (intro w3 hS; (try dsimp only at hS); skip; go_simp; (try with_reducible rfl))
  simp only [List.setIfInBounds_toArray, List.set_cons_zero, List.set_cons_succ]
  refine reg0_tk (v := ?_) 5 9 rfl rfl (by kernel_rfl) (by kernel_rfl) (by kernel_rfl) (by kernel_rfl) (by kernel_rfl) (fun _ _ _ h => h) (by rfl) ?_ (by assumption) (by assumption) ?_
  rotate_left
  · (intro w3 hS; (try dsimp only at hS); have hq := hta; go_simp; (try with_reducible rfl))
  simp only [List.setIfInBounds_toArray, List.set_cons_zero, List.set_cons_succ]
  obtain ⟨X, hX⟩ : ∃ X : World, X = (w.alloc (.cells #[.int .i64 x.tk, .int .i64 x.kd, .int .i64 x.nd, .int .u64 x.sq, .int .i64 x.of] 41)).drew := ⟨_, rfl⟩
  have hXb : Below w.heap.size w X := by rw [hX]; exact (Below.al (Below.refl _ w) _).drew
  have hXn : RdS X 5 (.slice (some ⟨w.heap.size, 0, none⟩) 1 1) 1 (Tm.cs x) := by rw [hX]; exact (RdS.box1 w 41 x).keep ((Below.refl _ _).drew)
  have hX0 : X.cell? ⟨P, 0, none⟩ = some v := cell_later hXb ((hbox0.cell 0).trans rfl)
  have hXz : w.heap.size ≤ X.heap.size := hXb.size
  have hXo := OwM.keep hrow hXb
  refine wpAnyG_oneS (i := 6) (by kernel_rfl) rfl (by rfl) (fun K hK => ?_)
  go_simp
  rw [← hX]
  clear hX
  refine hK _ _ trivial hX0 ?_
  clear hK K
  try simp only [Act.put, List.setIfInBounds_toArray, List.set_cons_zero, List.set_cons_succ]
  refine wpAnyG_oneS (i := 7) (by kernel_rfl) rfl (by rfl) (fun K hK => ?_)
  refine wp_app_at (.tmp 7) (.tmp 10) 53 rfl base 41 _ 5 40 ETt v N (rcs tmR l) rfl hXo _ 1 (Tm.cs x) (by decide) rfl hXn (Tm.cs_one _) (by unfold maxLen; omega) (by omega) (by omega) ?_
  intro a' c' w3 hown hg hwh
  have hx3 : w3.heap[P]? = X.heap[P]? := hg.block P (by omega) (fun e => hnb P e.symm rfl)
  have hX3 : w3.cell? ⟨P, 0, none⟩ = some v := (World.cell?_of_block (w := X) (a := ⟨P, 0, none⟩) hx3).trans hX0
  have hb3 : BoxN w3 P 53 #[v] := hx3.trans (hbox0.below hXb)
  refine hK _ _ trivial hX3 ?_
  clear hK K
  try simp only [Act.put, List.setIfInBounds_toArray, List.set_cons_zero, List.set_cons_succ]
  refine wpAnyG_oneS (i := 8) (by kernel_rfl) rfl (by rfl) (fun K hK => ?_)
  go_simp
  refine hK _ _ trivial hX3 ?_
  clear hK K
  try simp only [Act.put, List.setIfInBounds_toArray, List.set_cons_zero, List.set_cons_succ]
  refine wpAnyG_one (i := 9) (by kernel_rfl) rfl (by rfl) (by kernel_rfl) (fun K hK => ?_)
  have hf3 := hb3.frozen 0
  go_simp
  have hne3 := row_ne hown hb3 (by decide)
  have HFIN : Hid (∃ v', TM (w3.setCell ⟨P, 0, none⟩ (.slice a' (N + 1) c')) base P v' (l ++ [x]) ∧ TR w P v (w3.setCell ⟨P, 0, none⟩ (.slice a' (N + 1) c')) v') := by
    have hk3 : Kx (Xs P v) w w3 := (Kx.of_below hXb).grown hg (fun k hk => .inl (.inr hk))
    refine ⟨.slice a' (N + 1) c', ⟨hb3.set1 _, ?_, by rw [List.length_append, hN]; simp; omega, hge⟩, ⟨hk3.setCell (.inl (.inl rfl)) _, fun k hk => ?_⟩⟩
    · rw [List.length_append, hN, show rcs tmR (l ++ [x]) = rcs tmR l ++ Tm.cs x by rw [rcs_append]; simp [rcs, tmR]]
      exact (Kx.setCell (X := fun k => k = P) (Kx.refl _ w3) (.inl rfl) _).owns (fun k hk he => hne3 k hk he.symm) hown
    · rcases hwh k hk with h1 | h1
      · exact .inl h1
      · exact .inr (by omega)
  refine hK _ _ trivial ?_
  clear hK K
  try simp only [Act.put, List.setIfInBounds_toArray, List.set_cons_zero, List.set_cons_succ]
  refine wpAnyG_done (by kernel_rfl) ?_ _
  refine NoPanic.normal ?_
  exact bodyPost_end (results_none rfl _ _ _) rfl ⟨rfl, HFIN.out⟩
set_option maxHeartbeats 4000000 in
theorem pop_any (w : World) (base P : Nat) (v : Value) (l : List Tm) (m : Nat) (hl : l.length = m + 1) (h : TM w base P v l) : Calls Try.prog 108 #[.pointer (some ⟨P, 0, none⟩)] w fun e w' => e = .returned (.iface 41 (g l m).v) ∧ ∃ v', TM w' base P v' (l.take m) ∧ TR w P v w' v' ∧ ∀ k, v'.ownBlock = some k → v.ownBlock = some k := by
  obtain ⟨a, c, rfl⟩ := h.form
  have hlen := h.len
  have hge := h.ge
  have hrow := h.row
  have hbox := h.box
  have hnb := fun q => h.ne (q := q)
  have hm0 : m < l.length := by omega
  rw [hl] at hlen hrow hbox hnb
  obtain ⟨q, rfl, hq1, hq2⟩ := OwM.addr hrow (by omega)
  have hPq : P ≠ q := hnb q rfl
  have hPl := hbox.lt
  have hcap : m + 1 ≤ c := by
    rcases hrow.2 with ⟨h0, _⟩ | ⟨g, cap, cur, hv, _, _, hc, _⟩
    · simp at h0
    · simp only [Value.slice.injEq] at hv; omega
  have h0 : w.cell? ⟨P, 0, none⟩ = some (.slice (some ⟨q, 0, none⟩) (m + 1) c) := (hbox.cell 0).trans rfl
  obtain ⟨g0, g1, g2, g3, g4⟩ := OwM.at hrow hl m (by omega)
  obtain ⟨x, HX⟩ : ∃ x, Hid (g l m = x) := ⟨_, rfl⟩
  rw [HX.out] at g0 g1 g2 g3 g4
  rw [HX.out, hl]
  have hw1 : IntKind.i64.wrap ((m : Int) + 1 - 1) = (m : Int) := by rw [show (m : Int) + 1 - 1 = (m : Int) by omega]; exact IntWalk.i64_in _ (by omega)
  have hwm : IntKind.i64.wrap (m : Int) = (m : Int) := IntWalk.i64_in _ (by omega)
  have i1 : (0 : Int) ≤ (m : Int) := by omega
  have i2 : (m : Int) < (m : Int) + 1 := by omega
  have hsl := slice_hi q (m + 1) c m (by omega) hcap (by omega) 53 (.inr rfl)
  clear h hnb
  obtain ⟨X1, hX1⟩ : ∃ X : World, X = (w.alloc (.cells #[.int .i64 0, .int .i64 0, .int .i64 0, .int .u64 0, .int .i64 0] 41)).drew := ⟨_, rfl⟩
  have hb1 : BoxN X1 w.heap.size 41 #[.int .i64 0, .int .i64 0, .int .i64 0, .int .u64 0, .int .i64 0] := by rw [hX1]; exact (BoxN.new w _ _).below (Below.refl _ _).drew
  have hBX1 : Below w.heap.size w X1 := by rw [hX1]; exact (Below.al (Below.refl _ w) _).drew
  obtain ⟨X2, hX2⟩ : ∃ X : World, X = X1.setCells w.heap.size 0 (Tm.cs x) := ⟨_, rfl⟩
  have hb2 : BoxN X2 w.heap.size 41 #[.int .i64 x.tk, .int .i64 x.kd, .int .i64 x.nd, .int .u64 x.sq, .int .i64 x.of] := by rw [hX2]; exact hb1.sets (Tm.cs x) rfl
  have hBX2 : Below w.heap.size w X2 := by
    rw [hX2]
    exact (Kx.setCells (X := fun k => k = w.heap.size) (Kx.of_below hBX1) (.inl rfl) _ _).below (Nat.le_refl _) (fun k hk => by have hk : k = w.heap.size := hk; omega)
  go_enter Try.func108, Try.ntmps108
  go_upto_region 1 with fail
  refine wp_region_noPanic ?_
  refine wp_region_held_drew (S := (fun w' => Below w.heap.size w w')) (by kernel_rfl) ((Below.refl _ w).drew) (fun hHeld => ?_)
  refine reg_tk (v := ?_) 0 4 rfl rfl (by kernel_rfl) (by kernel_rfl) (by kernel_rfl) (fun _ _ _ h => h) (by rfl) ?_ (by assumption) ?_
  rotate_left
  · (intro w hSw; (try dsimp only at hSw); go_simp; (try with_reducible rfl))
  simp only [List.setIfInBounds_toArray, List.set_cons_zero, List.set_cons_succ]
  refine reg_tk (v := ?_) 1 5 rfl rfl (by kernel_rfl) (by kernel_rfl) (by kernel_rfl) (fun _ _ _ h => h) (by rfl) ?_ (by assumption) ?_
  rotate_left
  · (intro w hSw; (try dsimp only at hSw); go_simp; (try with_reducible rfl))
  simp only [List.setIfInBounds_toArray, List.set_cons_zero, List.set_cons_succ]
  refine reg_tk (v := .slice (some ⟨q, 0, none⟩) (m + 1) c) 2 6 rfl rfl (by kernel_rfl) (by kernel_rfl) (by kernel_rfl) (fun _ _ _ h => h) (by rfl) (fun w3 hS => by have hg := cell_later hS h0; go_simp) (by assumption) ?_
  simp only [List.setIfInBounds_toArray, List.set_cons_zero, List.set_cons_succ]
  refine reg_tk (v := ?_) 3 7 rfl rfl (by kernel_rfl) (by kernel_rfl) (by kernel_rfl) (fun _ _ _ h => h) (by rfl) ?_ (by assumption) ?_
  rotate_left
  · (intro w hSw; (try dsimp only at hSw); go_simp; (try with_reducible rfl))
  simp only [List.setIfInBounds_toArray, List.set_cons_zero, List.set_cons_succ]
  refine reg_tk (v := ?_) 4 8 rfl rfl (by kernel_rfl) (by kernel_rfl) (by kernel_rfl) (fun _ _ _ h => h) (by rfl) ?_ (by assumption) ?_
  rotate_left
  · (intro w hSw; (try dsimp only at hSw); go_simp; (try with_reducible rfl))
  simp only [List.setIfInBounds_toArray, List.set_cons_zero, List.set_cons_succ]
  refine reg_tk (v := .slice (some ⟨q, 0, none⟩) (m + 1) c) 5 9 rfl rfl (by kernel_rfl) (by kernel_rfl) (by kernel_rfl) (fun _ _ _ h => h) (by rfl) (fun w3 hS => by have hg := cell_later hS h0; go_simp) (by assumption) ?_
  simp only [List.setIfInBounds_toArray, List.set_cons_zero, List.set_cons_succ]
  refine reg_tk (v := ?_) 6 10 rfl rfl (by kernel_rfl) (by kernel_rfl) (by kernel_rfl) (fun _ _ _ h => h) (by rfl) ?_ (by assumption) ?_
  rotate_left
  · (intro w hSw; (try dsimp only at hSw); go_simp; (try with_reducible rfl))
  simp only [List.setIfInBounds_toArray, List.set_cons_zero, List.set_cons_succ]
  refine reg_tk (v := ?_) 7 11 rfl rfl (by kernel_rfl) (by kernel_rfl) (by kernel_rfl) (fun _ _ _ h => h) (by rfl) ?_ (by assumption) ?_
  rotate_left
  · (intro w hSw; (try dsimp only at hSw); go_simp; (try with_reducible rfl))
  simp only [List.setIfInBounds_toArray, List.set_cons_zero, List.set_cons_succ]
  refine reg_tk (v := ?_) 8 12 rfl rfl (by kernel_rfl) (by kernel_rfl) (by kernel_rfl) (fun _ _ _ h => h) (by rfl) ?_ (by assumption) ?_
  rotate_left
  · (intro w hSw; (try dsimp only at hSw); go_simp; (try with_reducible rfl))
  simp only [List.setIfInBounds_toArray, List.set_cons_zero, List.set_cons_succ]
  refine reg_tk (v := x.v) 9 13 rfl rfl (by kernel_rfl) (by kernel_rfl) (by kernel_rfl) (fun _ _ _ h => h) (by rfl) (fun w3 hS => by (have x0 := cell_later hS g0; have x1 := cell_later hS g1; have x2 := cell_later hS g2; have x3 := cell_later hS g3; have x4 := cell_later hS g4); go_simp) (by assumption) ?_
  simp only [List.setIfInBounds_toArray, List.set_cons_zero, List.set_cons_succ]
  refine wpAnyH_ready (rs := [10]) (by kernel_rfl) (by simp) ?_
  refine AllReadyH.cons rfl (fun K hK => ?_) AllReadyH.nil
  go_simp
  rw [← hX1]
  refine hK.out _ _ hBX1 (fun hHeld2 => ?_)
  clear hK K hHeld
  have hHeld := hHeld2
  clear hHeld2
  try simp only [Act.put, List.setIfInBounds_toArray, List.set_cons_zero, List.set_cons_succ]
  refine wpAnyH_ready (rs := [11]) (by kernel_rfl) (by simp) ?_
  refine AllReadyH.cons rfl (fun K hK => ?_) AllReadyH.nil
  rw [if_pos (by rfl)]
  refine wp_store_tm (.tmp 3) (.tmp 13) rfl w.heap.size 0 x rfl rfl (hb1.there 5 rfl) ?_
  rw [← hX2]
  refine hK.out _ _ hBX2 (fun hHeld2 => ?_)
  clear hK K hHeld
  have hHeld := hHeld2
  clear hHeld2
  try simp only [Act.put, List.setIfInBounds_toArray, List.set_cons_zero, List.set_cons_succ]
  simp only [List.getElem_toArray, List.getElem_cons_succ, List.getElem_cons_zero, List.setIfInBounds_toArray, List.set_cons_zero, List.set_cons_succ]
  refine wpAnyH_done (by kernel_rfl) ?_ _
  refine NoPanic.normal ?_
  clear hHeld hX1 hX2 hb1 hBX1
  have HOX := OwM.keep hrow hBX2
  have hbx2 := hbox.below hBX2
  have hz2 := hBX2.size
  have h2 : X2.drew.cell? ⟨P, 0, none⟩ = some (.slice (some ⟨q, 0, none⟩) (m + 1) c) := ((hbx2.below (Below.refl _ X2).drew).cell 0).trans rfl
  have HXD := OwM.keep HOX (Below.refl _ X2).drew
  have hb2d := hb2.below (Below.refl _ X2).drew
  have hbxd := hbx2.below (Below.refl _ X2).drew
  have hfd := hbxd.frozen 0
  clear g0 g1 g2 g3 g4 h0
  go_upto_region 2 with fail
  refine wp_region_noPanic ?_
  refine wp_region_late (fun _ => True) (fun w' => w'.cell? ⟨P, 0, none⟩ = some (.slice (some ⟨q, 0, none⟩) (m + 1) c)) [11] (by kernel_rfl) trivial h2 (fun hHeld0 hHeld => ?_)
  refine reg0_tk (v := ?_) 0 14 rfl rfl (by kernel_rfl) (by kernel_rfl) (by kernel_rfl) (by kernel_rfl) (by kernel_rfl) (fun _ _ _ h => h) (by rfl) ?_ (by assumption) (by assumption) ?_
  rotate_left
  · (intro w3 hS; (try dsimp only at hS); skip; go_simp; (try with_reducible rfl))
  simp only [List.setIfInBounds_toArray, List.set_cons_zero, List.set_cons_succ]
  refine reg0_tk (v := ?_) 1 15 rfl rfl (by kernel_rfl) (by kernel_rfl) (by kernel_rfl) (by kernel_rfl) (by kernel_rfl) (fun _ _ _ h => h) (by rfl) ?_ (by assumption) (by assumption) ?_
  rotate_left
  · (intro w3 hS; (try dsimp only at hS); skip; go_simp; (try with_reducible rfl))
  simp only [List.setIfInBounds_toArray, List.set_cons_zero, List.set_cons_succ]
  refine reg0_tk (v := ?_) 2 16 rfl rfl (by kernel_rfl) (by kernel_rfl) (by kernel_rfl) (by kernel_rfl) (by kernel_rfl) (fun _ _ _ h => h) (by rfl) ?_ (by assumption) (by assumption) ?_
  rotate_left
  · (intro w3 hS; (try dsimp only at hS); skip; go_simp; (try with_reducible rfl))
  simp only [List.setIfInBounds_toArray, List.set_cons_zero, List.set_cons_succ]
  refine regG_tk (v := ?_) 3 17 rfl rfl (by kernel_rfl) (by kernel_rfl) (by kernel_rfl) (by kernel_rfl) (by kernel_rfl) (fun _ _ _ h => h) (by rfl) ?_ (by assumption) (by assumption) ?_
  rotate_left
  · (intro w3 hS; (try dsimp only at hS); skip; go_simp; (try with_reducible rfl))
  simp only [List.setIfInBounds_toArray, List.set_cons_zero, List.set_cons_succ]
  refine reg0_tk (v := ?_) 4 18 rfl rfl (by kernel_rfl) (by kernel_rfl) (by kernel_rfl) (by kernel_rfl) (by kernel_rfl) (fun _ _ _ h => h) (by rfl) ?_ (by assumption) (by assumption) ?_
  rotate_left
  · (intro w3 hS; (try dsimp only at hS); skip; go_simp; (try with_reducible rfl))
  simp only [List.setIfInBounds_toArray, List.set_cons_zero, List.set_cons_succ]
  refine reg0_tk (v := ?_) 5 19 rfl rfl (by kernel_rfl) (by kernel_rfl) (by kernel_rfl) (by kernel_rfl) (by kernel_rfl) (fun _ _ _ h => h) (by rfl) ?_ (by assumption) (by assumption) ?_
  rotate_left
  · (intro w3 hS; (try dsimp only at hS); skip; go_simp; (try with_reducible rfl))
  simp only [List.setIfInBounds_toArray, List.set_cons_zero, List.set_cons_succ]
  refine regG_tk (v := ?_) 6 20 rfl rfl (by kernel_rfl) (by kernel_rfl) (by kernel_rfl) (by kernel_rfl) (by kernel_rfl) (fun _ _ _ h => h) (by rfl) ?_ (by assumption) (by assumption) ?_
  rotate_left
  · (intro w3 hS; (try dsimp only at hS); skip; go_simp; (try with_reducible rfl))
  simp only [List.setIfInBounds_toArray, List.set_cons_zero, List.set_cons_succ]
  refine reg0_tk (v := ?_) 7 21 rfl rfl (by kernel_rfl) (by kernel_rfl) (by kernel_rfl) (by kernel_rfl) (by kernel_rfl) (fun _ _ _ h => h) (by rfl) ?_ (by assumption) (by assumption) ?_
  rotate_left
  · (intro w3 hS; (try dsimp only at hS); skip; go_simp; (try with_reducible rfl))
  simp only [List.setIfInBounds_toArray, List.set_cons_zero, List.set_cons_succ]
  refine reg0_tk (v := ?_) 8 22 rfl rfl (by kernel_rfl) (by kernel_rfl) (by kernel_rfl) (by kernel_rfl) (by kernel_rfl) (fun _ _ _ h => h) (by rfl) ?_ (by assumption) (by assumption) ?_
  rotate_left
  · (intro w3 hS; (try dsimp only at hS); skip; go_simp; (try with_reducible rfl))
  simp only [List.setIfInBounds_toArray, List.set_cons_zero, List.set_cons_succ]
  refine reg0_tk (v := ?_) 9 23 rfl rfl (by kernel_rfl) (by kernel_rfl) (by kernel_rfl) (by kernel_rfl) (by kernel_rfl) (fun _ _ _ h => h) (by rfl) ?_ (by assumption) (by assumption) ?_
  rotate_left
  · (intro w3 hS; (try dsimp only at hS); have hq := hsl; go_simp; (try with_reducible rfl))
  simp only [List.setIfInBounds_toArray, List.set_cons_zero, List.set_cons_succ]
  refine wpAnyG_oneS (i := 10) (by kernel_rfl) rfl (by rfl) (fun K hK => ?_)
  go_simp
  refine hK _ _ trivial h2 ?_
  clear hK K
  try simp only [Act.put, List.setIfInBounds_toArray, List.set_cons_zero, List.set_cons_succ]
  refine wpAnyG_one (i := 11) (by kernel_rfl) rfl (by rfl) (by kernel_rfl) (fun K hK => ?_)
  go_simp
  obtain ⟨X3, hX3⟩ : ∃ X : World, X = (X2.setCell ⟨P, 0, none⟩ (.slice (some ⟨q, 0, none⟩) m c)).drew := ⟨_, rfl⟩
  have hk3 : Kx (fun k => k = P) X2 X3 := by rw [hX3]; exact (Kx.setCell (X := fun k => k = P) (Kx.refl _ _) (.inl rfl) _).next (Below.refl _ _).drew
  have hb3 : BoxN X3 P 53 #[.slice (some ⟨q, 0, none⟩) m c] := by rw [hX3]; exact (hbx2.set1 _).below (Below.refl _ _).drew
  have hbt : BoxN X3 w.heap.size 41 #[.int .i64 x.tk, .int .i64 x.kd, .int .i64 x.nd, .int .u64 x.sq, .int .i64 x.of] := hk3.box (by omega) hb2
  have HFIN : Hid (∃ v', TM X3 base P v' (l.take m) ∧ TR w P (.slice (some ⟨q, 0, none⟩) (m + 1) c) X3 v' ∧ ∀ k, v'.ownBlock = some k → (Value.slice (some ⟨q, 0, none⟩) (m + 1) c).ownBlock = some k) := by
    refine ⟨.slice (some ⟨q, 0, none⟩) m c, ⟨hb3, ?_, by rw [List.length_take]; omega, hge⟩, ⟨?_, fun k hk => .inl hk⟩, fun k hk => hk⟩
    · have := OwM.cut HOX m (by omega)
      rw [List.length_take, Nat.min_eq_left (by omega)]
      exact hk3.owns (fun k hk he => by
        have e2 : some q = some k := hk
        simp only [Option.some.injEq] at e2
        omega) this
    · exact (Kx.of_below hBX2).trans hk3 (fun k hk hy => .inl hy)
  rw [← hX3]
  refine hK _ _ trivial ?_
  clear hK K
  try simp only [Act.put, List.setIfInBounds_toArray, List.set_cons_zero, List.set_cons_succ]
  refine wpAnyG_done (by kernel_rfl) ?_ _
  refine NoPanic.normal ?_
  have c0 : X3.cell? ⟨w.heap.size, 0, none⟩ = some (.int .i64 x.tk) := (hbt.cell 0).trans rfl
  have c1 : X3.cell? ⟨w.heap.size, 1, none⟩ = some (.int .i64 x.kd) := (hbt.cell 1).trans rfl
  have c2 : X3.cell? ⟨w.heap.size, 2, none⟩ = some (.int .i64 x.nd) := (hbt.cell 2).trans rfl
  have c3 : X3.cell? ⟨w.heap.size, 3, none⟩ = some (.int .u64 x.sq) := (hbt.cell 3).trans rfl
  have c4 : X3.cell? ⟨w.heap.size, 4, none⟩ = some (.int .i64 x.of) := (hbt.cell 4).trans rfl
  clear hX3 hk3 hb3 hbt hb2d hbxd hHeld hHeld0
  go_wp2_with fail
  go_ret
  exact ⟨rfl, HFIN.out⟩
end Go.Proofs.Ytigmhglkohjlhaa
