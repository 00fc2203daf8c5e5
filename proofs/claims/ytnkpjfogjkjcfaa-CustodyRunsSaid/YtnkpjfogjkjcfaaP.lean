


/- Custody: the program's copy of a world. -/
import Derived.Test.YtnkpjfogjkjcfaaOb
namespace Go.Proofs.Ytnkpjfogjkjcfaa
open Go.RowKit
set_option linter.unusedSimpArgs false
set_option linter.unusedVariables false
set_option maxRecDepth 100000

/-- bounds on what is appended to -/
structure Sml (X : Wd) : Prop where
  cs : X.cs.length ≤ 100000
  fr : X.fr.length ≤ 100000
  tg : ∀ i, (gc X.cs i).tk.length ≤ 100000 ∧ (gc X.cs i).kp.length ≤ 100000
theorem BoxN.setc {w : World} {b T : Nat} {vs : Array Value} (h : BoxN w b T vs) (i : Nat) (u : Value) : BoxN (w.setCell ⟨b, i, none⟩ u) b T (vs.setIfInBounds i u) := heap_setCell_same w b i vs T u h
/-- a copy of a world that is being made: the tags of the first k nodes are one's own -/
structure OL (w0 w : World) (B g cap : Nat) (fv : Value) (q0 q : List Cq) (X : Wd) (k : Nat) : Prop where
  rows : OwC w B g cap X.cs.length q
  frs : OwP w B fv X.fr
  len : q.length = X.cs.length
  done : ∀ i, i < k → CopO w B (gq q i) (gc X.cs i)
  rest : ∀ i, k ≤ i → gq q i = gq q0 i
  src : ∀ i, CopR w0 (gq q0 i) (gc X.cs i)
  tt : ∀ i j b, i < k → j < k → (gq q i).tv.ownBlock = some b → (gq q j).tv.ownBlock = some b → i = j
  kk : ∀ i j b, i < k → j < k → (gq q i).kv.ownBlock = some b → (gq q j).kv.ownBlock = some b → i = j
  tk : ∀ i j b, i < k → j < k → (gq q i).tv.ownBlock = some b → (gq q j).kv.ownBlock = some b → False
  bel : Below w0.heap.size w0 w
  base : w0.heap.size = B
theorem OL.cop {w0 w : World} {B g cap : Nat} {fv : Value} {q0 q : List Cq} {X : Wd} {k : Nat} (h : OL w0 w B g cap fv q0 q X k) (i : Nat) : CopR w (gq q i) (gc X.cs i) := by
  by_cases hi : i < k
  · exact (h.done i hi).rd
  · rw [h.rest i (by omega)]
    exact (h.src i).keep h.bel
theorem OL.pt {w0 w : World} {B g cap : Nat} {fv : Value} {q0 q : List Cq} {X : Wd} {k : Nat} (h : OL w0 w B g cap fv q0 q X k) : PtW w (.slice (some ⟨g, 0, none⟩) X.cs.length cap) fv q X :=
  ⟨by have := RdS.of_owns h.rows (by decide); unfold RdL; rw [h.len]; exact this, RdL.of_owns (R := psR) h.frs, h.len, h.cop⟩
theorem OL.fin {w0 w : World} {B g cap : Nat} {fv : Value} {q0 q : List Cq} {X : Wd} (h : OL w0 w B g cap fv q0 q X X.cs.length) : OR w B g cap fv q X := by
  have hz : ∀ i, X.cs.length ≤ i → gq q i = cq0 := fun i hi => by
    unfold gq
    rw [List.getD_eq_getElem?_getD, List.getElem?_eq_none (by rw [h.len]; exact hi)]
    rfl
  have hlt : ∀ i b, (gq q i).tv.ownBlock = some b → i < X.cs.length := fun i b e => by
    by_cases hi : i < X.cs.length
    · exact hi
    · rw [hz i (by omega)] at e
      simp [cq0, Value.ownBlock] at e
  have hlk : ∀ i b, (gq q i).kv.ownBlock = some b → i < X.cs.length := fun i b e => by
    by_cases hi : i < X.cs.length
    · exact hi
    · rw [hz i (by omega)] at e
      simp [cq0, Value.ownBlock] at e
  refine ⟨h.rows, h.frs, h.len, fun i => ?_, ⟨fun i j b e1 e2 => h.tt i j b (hlt i b e1) (hlt j b e2) e1 e2, fun i j b e1 e2 => h.kk i j b (hlk i b e1) (hlk j b e2) e1 e2, fun i j b e1 e2 => h.tk i j b (hlt i b e1) (hlk j b e2) e1 e2⟩⟩
  by_cases hi : i < X.cs.length
  · exact h.done i hi
  · rw [hz i (by omega)]
    have : gc X.cs i = cp0 := by
      unfold gc
      rw [List.getD_eq_getElem?_getD, List.getElem?_eq_none (by omega)]
      rfl
    rw [this]
    exact ⟨rfl, rfl, rfl, rfl, ⟨rfl, .inl ⟨rfl, rfl⟩⟩, ⟨rfl, .inl ⟨rfl, rfl⟩⟩⟩
theorem own_mono {w : World} {B B' e s n : Nat} {v : Value} {xs : List Value} (h : w.ownsRow B e s v n xs) (hb : B' ≤ B) : w.ownsRow B' e s v n xs := by
  refine ⟨h.1, ?_⟩
  rcases h.2 with h2 | ⟨g, cap, cur, h1, h2, h3⟩
  · exact .inl h2
  · exact .inr ⟨g, cap, cur, h1, by omega, h3⟩
/-- one node more -/
theorem OL.step {w0 w w1 w2 : World} {B g cap : Nat} {fv : Value} {q0 q : List Cq} {X : Wd} {k : Nat} (h : OL w0 w B g cap fv q0 q X k) (hk : k < X.cs.length) {ta ka : Option Addr} {tc kc : Nat}
    (h1 : w1.ownsRow w.heap.size 80 2 (.slice ta (gc X.cs k).tk.length tc) (gc X.cs k).tk.length (rcs tgR (gc X.cs k).tk)) (b1 : Below w.heap.size w w1)
    (h2 : w2.ownsRow w1.heap.size 80 2 (.slice ka (gc X.cs k).kp.length kc) (gc X.cs k).kp.length (rcs tgR (gc X.cs k).kp)) (b2 : Below w1.heap.size w1 w2) :
    OL w0 ((w2.setCell ⟨g, k * 6 + 4, none⟩ (.slice ta (gc X.cs k).tk.length tc)).setCell ⟨g, k * 6 + 5, none⟩ (.slice ka (gc X.cs k).kp.length kc)) B g cap fv q0 (q.set k { gq q k with ta := ta, tn := (gc X.cs k).tk.length, tc := tc, ka := ka, kn := (gc X.cs k).kp.length, kc := kc }) X (k + 1) := by
  have hB := h.bel.size
  have hBe := h.base
  have b12 : Below w.heap.size w w2 := Below.next b1 b2
  have hgw := (h.rows.lt g rfl).2
  have hgB := (h.rows.lt g rfl).1
  have hq : k < q.length := by rw [h.len]; exact hk
  have hrk : CopR w (gq q k) (gc X.cs k) := h.cop k
  have hk2 : Kx (fun k => k = g) w2 ((w2.setCell ⟨g, k * 6 + 4, none⟩ (.slice ta (gc X.cs k).tk.length tc)).setCell ⟨g, k * 6 + 5, none⟩ (.slice ka (gc X.cs k).kp.length kc)) := (kx_cell w2 g _ _).setCell (.inl rfl) _
  have rows2 : OwC w2 B g cap X.cs.length q := Own.keep h.rows b12
  have frs2 : OwP w2 B fv X.fr := Own.keep h.frs b12
  have t2 : w2.ownsRow w.heap.size 80 2 (.slice ta (gc X.cs k).tk.length tc) (gc X.cs k).tk.length (rcs tgR (gc X.cs k).tk) := Own.keep h1 b2
  have hga : ∀ {B' s n : Nat} {v : Value} {xs : List Value} {e : TypeId}, w2.ownsRow B' e s v n xs → 45 ≠ e → ∀ k, v.ownBlock = some k → ¬ k = g := fun ho he k hvk e => by
    rw [e] at hvk
    exact own_apart rows2 ho he g rfl hvk
  have hold : ∀ i b, i < k → (gq q i).tv.ownBlock = some b → b < w.heap.size := fun i b hi e => ((h.done i hi).tk.lt b e).2
  have holdk : ∀ i b, i < k → (gq q i).kv.ownBlock = some b → b < w.heap.size := fun i b hi e => ((h.done i hi).kp.lt b e).2
  have hnt : ∀ b, (Value.slice ta (gc X.cs k).tk.length tc).ownBlock = some b → w.heap.size ≤ b ∧ b < w1.heap.size := fun b e => h1.lt b e
  have hnk : ∀ b, (Value.slice ka (gc X.cs k).kp.length kc).ownBlock = some b → w1.heap.size ≤ b := fun b e => (h2.lt b e).1
  have hs1 := b1.size
  have egq : ∀ j, gq (q.set k { gq q k with ta := ta, tn := (gc X.cs k).tk.length, tc := tc, ka := ka, kn := (gc X.cs k).kp.length, kc := kc }) j = if j = k then { gq q k with ta := ta, tn := (gc X.cs k).tk.length, tc := tc, ka := ka, kn := (gc X.cs k).kp.length, kc := kc } else gq q j := fun j => gq_set hq
  refine ⟨?_, hk2.owns (hga frs2 (by decide)) frs2, by rw [List.length_set]; exact h.len, fun i hi => ?_, fun i hi => ?_, h.src, fun i j b hi hj e1 e2 => ?_, fun i j b hi hj e1 e2 => ?_, fun i j b hi hj e1 e2 => ?_, ?_, h.base⟩
  · have e1 := own_cell rows2 h.len k hk { gq q k with ta := ta, tn := (gc X.cs k).tk.length, tc := tc } 4 (.slice ta (gc X.cs k).tk.length tc) (by decide) rfl
    have e2 := own_cell e1 (by rw [List.length_set]; exact h.len) k hk { gq q k with ta := ta, tn := (gc X.cs k).tk.length, tc := tc, ka := ka, kn := (gc X.cs k).kp.length, kc := kc } 5 (.slice ka (gc X.cs k).kp.length kc) (by decide) (by rw [gq_set hq, if_pos rfl]; rfl)
    rwa [List.set_set] at e2
  · rw [egq]
    split
    · rename_i e
      subst e
      exact ⟨hrk.st, hrk.tt, hrk.of, hrk.nx, own_mono (hk2.owns (hga t2 (by decide)) t2) (by omega), own_mono (hk2.owns (hga h2 (by decide)) h2) (by omega)⟩
    · rename_i e
      have hd := h.done i (by omega)
      exact ⟨hd.st, hd.tt, hd.of, hd.nx, hk2.owns (hga (Own.keep hd.tk b12) (by decide)) (Own.keep hd.tk b12), hk2.owns (hga (Own.keep hd.kp b12) (by decide)) (Own.keep hd.kp b12)⟩
  · rw [egq, if_neg (by omega)]
    exact h.rest i (by omega)
  · rw [egq] at e1 e2
    by_cases hx : i = k <;> by_cases hy : j = k
    · omega
    · rw [if_pos hx] at e1; rw [if_neg hy] at e2
      have := hnt b e1; have := hold j b (by omega) e2; omega
    · rw [if_neg hx] at e1; rw [if_pos hy] at e2
      have := hnt b e2; have := hold i b (by omega) e1; omega
    · rw [if_neg hx] at e1; rw [if_neg hy] at e2
      exact h.tt i j b (by omega) (by omega) e1 e2
  · rw [egq] at e1 e2
    by_cases hx : i = k <;> by_cases hy : j = k
    · omega
    · rw [if_pos hx] at e1; rw [if_neg hy] at e2
      have := hnk b e1; have := holdk j b (by omega) e2; omega
    · rw [if_neg hx] at e1; rw [if_pos hy] at e2
      have := hnk b e2; have := holdk i b (by omega) e1; omega
    · rw [if_neg hx] at e1; rw [if_neg hy] at e2
      exact h.kk i j b (by omega) (by omega) e1 e2
  · rw [egq] at e1 e2
    by_cases hx : i = k <;> by_cases hy : j = k
    · rw [if_pos hx] at e1; rw [if_pos hy] at e2
      have := hnt b e1; have := hnk b e2; omega
    · rw [if_pos hx] at e1; rw [if_neg hy] at e2
      have := hnt b e1; have := holdk j b (by omega) e2; omega
    · rw [if_neg hx] at e1; rw [if_pos hy] at e2
      have := hnk b e2; have := hold i b (by omega) e1; omega
    · rw [if_neg hx] at e1; rw [if_neg hy] at e2
      exact h.tk i j b (by omega) (by omega) e1 e2
  · exact (Kx.of_below (X := fun k => k = g) (h.bel.trans (b12.mono hB))).trans hk2 (fun _ _ h => h) |>.below (Nat.le_refl _) (fun k e => by omega)
/-- a world behind a pointer, one's own -/
structure OP (w : World) (B p g cap : Nat) (fv : Value) (q : List Cq) (X : Wd) : Prop where
  box : BoxN w p 66 #[.int .i64 X.ds, .slice (some ⟨g, 0, none⟩) X.cs.length cap, fv]
  or : OR w B g cap fv q X
  ge : B ≤ p
theorem OP.bw {w : World} {B p g cap : Nat} {fv : Value} {q : List Cq} {X : Wd} (h : OP w B p g cap fv q X) : BW w p 66 (.slice (some ⟨g, 0, none⟩) X.cs.length cap) fv q X := ⟨h.box, h.or.pt⟩
set_option maxHeartbeats 4000000 in
theorem own_any (w : World) (v : Value) (X : Wd) (h : RdW w v X) (hs : Sml X) (hne : 0 < X.cs.length) : Calls Try.prog 40 #[v] w fun e w' => ∃ p g cap fv q, e = .returned (ptr p) ∧ OP w' w.heap.size p g cap fv q X ∧ Below w.heap.size w w' := by
  obtain ⟨cv, fv, q, rfl, hp⟩ := h
  obtain ⟨a, c, rfl⟩ := hp.rows.form
  obtain ⟨fa, fc, rfl⟩ := hp.frs.form
  have hl := hp.len
  obtain ⟨N, hN⟩ : ∃ N, X.cs.length = N := ⟨_, rfl⟩
  obtain ⟨F, hF⟩ : ∃ F, X.fr.length = F := ⟨_, rfl⟩
  have hsc := hs.cs
  have hsf := hs.fr
  rw [hl, hN] at hp
  rw [hF] at hp
  rw [hN] at hsc hne
  rw [hF] at hsf
  have HS := Lib.hid hs
  have HN := Lib.hid hN
  have HF := Lib.hid hF
  have HQ := Lib.hid hl
  have HP := Lib.hid hp
  rw [hl, hN, hF]
  clear hs hl hN hF hp
  obtain ⟨W, hW⟩ : ∃ W : World, W = (w.alloc (.cells #[.int .i64 X.ds, .slice a N c, .slice fa F fc] 25)).alloc (.cells #[.int .i64 X.ds, .slice a N c, .slice fa F fc] 66) := ⟨_, rfl⟩
  have hB0 : Below w.heap.size w W := by rw [hW]; exact (by repeat (first | assumption | exact Below.refl _ _ | apply Below.al | apply below_drewN | apply Below.drew | refine Below.next ?_ (by assumption)))
  have hWs : W.heap.size = w.heap.size + 2 := by rw [hW]; simp
  have e0 : BoxN W w.heap.size 25 #[.int .i64 X.ds, .slice a N c, .slice fa F fc] := by rw [hW]; exact (BoxN.new w _ _).below (by repeat (first | assumption | exact Below.refl _ _ | apply Below.al | apply below_drewN | apply Below.drew | refine Below.next ?_ (by assumption)))
  have e1 : BoxN W (w.heap.size + 1) 66 #[.int .i64 X.ds, .slice a N c, .slice fa F fc] := by
    rw [hW]
    have := BoxN.new (w.alloc (.cells #[.int .i64 X.ds, .slice a N c, .slice fa F fc] 25)) 66 #[.int .i64 X.ds, .slice a N c, .slice fa F fc]
    simpa using this
  have c1 : W.cell? ⟨w.heap.size, 1, none⟩ = some (.slice a N c) := e0.cell 1
  have c2 : W.cell? ⟨w.heap.size, 2, none⟩ = some (.slice fa F fc) := e0.cell 2
  have HC := fun w' (hb : Below W.heap.size W w') => cloneC_any (.slice a N c) q (by rw [HQ.out, HN.out]; omega) w' ((HP.out.rows.keep hB0).keep hb)
  have HF2 := fun w' (hb : Below W.heap.size W w') => cloneP_any (.slice fa F fc) X.fr (by rw [HF.out]; omega) w' ((HP.out.frs.keep hB0).keep hb)
  go_enter Try.func40, Try.ntmps40
  go_upto_region 2 with fail
  rw [← hW]
  clear hW
  have hSt : Below w.heap.size w W.drew ∧ W.drew.cell? ⟨w.heap.size, 1, none⟩ = some (.slice a N c) ∧ W.drew.cell? ⟨w.heap.size, 2, none⟩ = some (.slice fa F fc) := ⟨hB0.drew, c1, c2⟩
  refine wp_region_noPanic ?_
  refine wp_region_held_drew (S := (fun w' => Below w.heap.size w w' ∧ w'.cell? ⟨w.heap.size, 1, none⟩ = some (.slice a N c) ∧ w'.cell? ⟨w.heap.size, 2, none⟩ = some (.slice fa F fc))) (by kernel_rfl) hSt (fun hHeld => ?_)
  refine reg_tk (v := ?_) 0 9 rfl rfl (by kernel_rfl) (by kernel_rfl) (by kernel_rfl) (fun _ _ _ h => h) (by rfl) ?_ (by assumption) ?_
  rotate_left
  · (intro w hSw; (try dsimp only at hSw); go_simp; (try with_reducible rfl))
  simp only [List.setIfInBounds_toArray, List.set_cons_zero, List.set_cons_succ]
  refine reg_tk (v := ?_) 1 10 rfl rfl (by kernel_rfl) (by kernel_rfl) (by kernel_rfl) (fun _ _ _ h => h) (by rfl) ?_ (by assumption) ?_
  rotate_left
  · (intro w hSw; (try dsimp only at hSw); go_simp; (try with_reducible rfl))
  simp only [List.setIfInBounds_toArray, List.set_cons_zero, List.set_cons_succ]
  refine reg_tk (v := ?_) 2 11 rfl rfl (by kernel_rfl) (by kernel_rfl) (by kernel_rfl) (fun _ _ _ h => h) (by rfl) ?_ (by assumption) ?_
  rotate_left
  · (intro w hSw; (try dsimp only at hSw); go_simp; (try with_reducible rfl))
  simp only [List.setIfInBounds_toArray, List.set_cons_zero, List.set_cons_succ]
  refine reg_tk (v := .slice a N c) 3 12 rfl rfl (by kernel_rfl) (by kernel_rfl) (by kernel_rfl) (fun _ _ _ h => h) (by rfl) (fun w3 hS => by obtain ⟨_, y1, y2⟩ := hS; go_simp) (by assumption) ?_
  simp only [List.setIfInBounds_toArray, List.set_cons_zero, List.set_cons_succ]
  refine reg_tk (v := ?_) 5 14 rfl rfl (by kernel_rfl) (by kernel_rfl) (by kernel_rfl) (fun _ _ _ h => h) (by rfl) ?_ (by assumption) ?_
  rotate_left
  · (intro w hSw; (try dsimp only at hSw); go_simp; (try with_reducible rfl))
  simp only [List.setIfInBounds_toArray, List.set_cons_zero, List.set_cons_succ]
  refine reg_tk (v := .slice fa F fc) 6 15 rfl rfl (by kernel_rfl) (by kernel_rfl) (by kernel_rfl) (fun _ _ _ h => h) (by rfl) (fun w3 hS => by obtain ⟨_, y1, y2⟩ := hS; go_simp) (by assumption) ?_
  simp only [List.setIfInBounds_toArray, List.set_cons_zero, List.set_cons_succ]
  refine wpAnyH_ready (rs := [4]) (by kernel_rfl) (by simp) ?_
  refine AllReadyH.cons rfl (fun K hK => ?_) AllReadyH.nil
  go_simp
  refine (HC W.drew (Below.refl _ W).drew).mono ?_
  rintro e w1 ⟨ca, cc, rfl, ho1, hb1⟩
  have hB1 : Below W.heap.size W w1 := Below.next (Below.refl _ W).drew hb1
  refine hK.out _ _ ⟨hB0.trans (hB1.mono hB0.size), cell_later hB1 c1, cell_later hB1 c2⟩ (fun hHeld2 => ?_)
  clear hK K hHeld
  have hHeld := hHeld2
  clear hHeld2
  try simp only [Act.put, List.setIfInBounds_toArray, List.set_cons_zero, List.set_cons_succ]
  refine wpAnyH_ready (rs := [7]) (by kernel_rfl) (by simp) ?_
  refine AllReadyH.cons rfl (fun K hK => ?_) AllReadyH.nil
  go_simp
  refine (HF2 w1 hB1).mono ?_
  rintro e w2 ⟨pa, pc, rfl, ho2, hb2⟩
  have hB2 := Below.next hB1 hb2
  refine hK.out _ _ ⟨hB0.trans (hB2.mono hB0.size), cell_later hB2 c1, cell_later hB2 c2⟩ (fun hHeld2 => ?_)
  clear hK K hHeld
  have hHeld := hHeld2
  clear hHeld2
  try simp only [Act.put, List.setIfInBounds_toArray, List.set_cons_zero, List.set_cons_succ]
  have e2 : BoxN w2 (w.heap.size + 1) 66 #[.int .i64 X.ds, .slice a N c, .slice fa F fc] := e1.below hB2
  have e3 := e2.setc 1 (.slice ca q.length cc)
  have e4 := e3.setc 2 (.slice pa X.fr.length pc)
  have hS3 : Below w.heap.size w (w2.setCell ⟨w.heap.size + 1, 1, none⟩ (.slice ca q.length cc)) ∧ (w2.setCell ⟨w.heap.size + 1, 1, none⟩ (.slice ca q.length cc)).cell? ⟨w.heap.size, 1, none⟩ = some (.slice a N c) ∧ (w2.setCell ⟨w.heap.size + 1, 1, none⟩ (.slice ca q.length cc)).cell? ⟨w.heap.size, 2, none⟩ = some (.slice fa F fc) :=
    ⟨Below.st (hB0.trans (hB2.mono hB0.size)) (Nat.le_succ _) _, cell_set _ (by simp) (cell_later hB2 c1), cell_set _ (by simp) (cell_later hB2 c2)⟩
  have hS4 : Below w.heap.size w ((w2.setCell ⟨w.heap.size + 1, 1, none⟩ (.slice ca q.length cc)).setCell ⟨w.heap.size + 1, 2, none⟩ (.slice pa X.fr.length pc)) ∧ ((w2.setCell ⟨w.heap.size + 1, 1, none⟩ (.slice ca q.length cc)).setCell ⟨w.heap.size + 1, 2, none⟩ (.slice pa X.fr.length pc)).cell? ⟨w.heap.size, 1, none⟩ = some (.slice a N c) ∧ ((w2.setCell ⟨w.heap.size + 1, 1, none⟩ (.slice ca q.length cc)).setCell ⟨w.heap.size + 1, 2, none⟩ (.slice pa X.fr.length pc)).cell? ⟨w.heap.size, 2, none⟩ = some (.slice fa F fc) :=
    ⟨Below.st hS3.1 (Nat.le_succ _) _, cell_set _ (by simp) hS3.2.1, cell_set _ (by simp) hS3.2.2⟩
  have z1 : w2.cell? ⟨w.heap.size + 1, 1, none⟩ = some (.slice a N c) := e2.cell 1
  have z2 : w2.frozen? ⟨w.heap.size + 1, 1, none⟩ = false := e2.frozen 1
  have z3 : (w2.setCell ⟨w.heap.size + 1, 1, none⟩ (.slice ca q.length cc)).cell? ⟨w.heap.size + 1, 2, none⟩ = some (.slice fa F fc) := e3.cell 2
  have z4 : (w2.setCell ⟨w.heap.size + 1, 1, none⟩ (.slice ca q.length cc)).frozen? ⟨w.heap.size + 1, 2, none⟩ = false := e3.frozen 2
  refine reg_tk (v := ?_) 8 17 rfl rfl (by kernel_rfl) (by kernel_rfl) (by kernel_rfl) (fun _ _ _ h => h) (by rfl) ?_ (by assumption) ?_
  rotate_left
  · (intro w hSw; (try dsimp only at hSw); go_simp; (try with_reducible rfl))
  simp only [List.setIfInBounds_toArray, List.set_cons_zero, List.set_cons_succ]
  refine reg_tk (v := ?_) 9 18 rfl rfl (by kernel_rfl) (by kernel_rfl) (by kernel_rfl) (fun _ _ _ h => h) (by rfl) ?_ (by assumption) ?_
  rotate_left
  · (intro w hSw; (try dsimp only at hSw); go_simp; (try with_reducible rfl))
  simp only [List.setIfInBounds_toArray, List.set_cons_zero, List.set_cons_succ]
  refine reg_tk (v := ?_) 10 19 rfl rfl (by kernel_rfl) (by kernel_rfl) (by kernel_rfl) (fun _ _ _ h => h) (by rfl) ?_ (by assumption) ?_
  rotate_left
  · (intro w hSw; (try dsimp only at hSw); go_simp; (try with_reducible rfl))
  simp only [List.setIfInBounds_toArray, List.set_cons_zero, List.set_cons_succ]
  refine wpAnyH_ready (rs := [11]) (by kernel_rfl) (by simp) ?_
  refine AllReadyH.cons rfl (fun K hK => ?_) AllReadyH.nil
  go_simp
  refine hK.out _ _ hS3 (fun hHeld2 => ?_)
  clear hK K hHeld
  have hHeld := hHeld2
  clear hHeld2
  try simp only [Act.put, List.setIfInBounds_toArray, List.set_cons_zero, List.set_cons_succ]
  refine reg_tk (v := ?_) 12 20 rfl rfl (by kernel_rfl) (by kernel_rfl) (by kernel_rfl) (fun _ _ _ h => h) (by rfl) ?_ (by assumption) ?_
  rotate_left
  · (intro w hSw; (try dsimp only at hSw); go_simp; (try with_reducible rfl))
  simp only [List.setIfInBounds_toArray, List.set_cons_zero, List.set_cons_succ]
  refine reg_tk (v := ?_) 13 21 rfl rfl (by kernel_rfl) (by kernel_rfl) (by kernel_rfl) (fun _ _ _ h => h) (by rfl) ?_ (by assumption) ?_
  rotate_left
  · (intro w hSw; (try dsimp only at hSw); go_simp; (try with_reducible rfl))
  simp only [List.setIfInBounds_toArray, List.set_cons_zero, List.set_cons_succ]
  refine reg_tk (v := ?_) 14 22 rfl rfl (by kernel_rfl) (by kernel_rfl) (by kernel_rfl) (fun _ _ _ h => h) (by rfl) ?_ (by assumption) ?_
  rotate_left
  · (intro w hSw; (try dsimp only at hSw); go_simp; (try with_reducible rfl))
  simp only [List.setIfInBounds_toArray, List.set_cons_zero, List.set_cons_succ]
  refine wpAnyH_ready (rs := [15]) (by kernel_rfl) (by simp) ?_
  refine AllReadyH.cons rfl (fun K hK => ?_) AllReadyH.nil
  go_simp
  refine hK.out _ _ hS4 (fun hHeld2 => ?_)
  clear hK K hHeld
  have hHeld := hHeld2
  clear hHeld2
  try simp only [Act.put, List.setIfInBounds_toArray, List.set_cons_zero, List.set_cons_succ]
  refine wpAnyH_done (by kernel_rfl) ?_ _
  refine NoPanic.normal ?_
  obtain ⟨W3, hW3⟩ : ∃ W3 : World, W3 = (w2.setCell ⟨w.heap.size + 1, 1, none⟩ (.slice ca q.length cc)).setCell ⟨w.heap.size + 1, 2, none⟩ (.slice pa X.fr.length pc) := ⟨_, rfl⟩
  rw [← hW3] at e4 hS4 ⊢
  have hk3 : Kx (fun k => k = w.heap.size + 1) w2 W3 := by rw [hW3]; exact (kx_cell w2 (w.heap.size + 1) _ _).setCell (.inl rfl) _
  clear hW3 hS3 z1 z2 z3 z4 hSt hHeld
  have hzs : W.drew.heap.size = w.heap.size + 2 := hWs
  have ho1' : w1.ownsRow W.drew.heap.size 45 6 (.slice ca q.length cc) q.length (rcs cpR q) := ho1
  have ho2' : w2.ownsRow w1.heap.size 47 4 (.slice pa X.fr.length pc) X.fr.length (rcs psR X.fr) := ho2
  have hw1s := hb1.size
  obtain ⟨g, rfl⟩ : ∃ g, ca = some ⟨g, 0, none⟩ := by
    rcases ho1'.2 with ⟨h1, h2⟩ | ⟨g, cap, cur, h1, _⟩
    · rw [HQ.out, HN.out] at h2; omega
    · simp only [Value.slice.injEq] at h1; exact ⟨g, h1.1⟩
  have hgg := ho1'.lt g rfl
  have hol : OL w W3 w.heap.size g cc (.slice pa X.fr.length pc) q q X 0 := by
    have r2 : w2.ownsRow W.drew.heap.size 45 6 (.slice (some ⟨g, 0, none⟩) q.length cc) q.length (rcs cpR q) := Own.keep ho1' hb2
    refine ⟨?_, ?_, HQ.out, fun i hi => by omega, fun i _ => rfl, HP.out.cop, fun i j b hi => by omega, fun i j b hi => by omega, fun i j b hi => by omega, hS4.1, rfl⟩
    · have := own_mono (hk3.owns (fun k hk e => by simp only [Value.ownBlock, Option.some.injEq] at hk; omega) r2) (B' := w.heap.size) (by omega)
      rw [← HQ.out]
      exact this
    · exact own_mono (hk3.owns (fun k hk e => by have := ho2'.lt k hk; omega) ho2') (by omega)
  have e5 : BoxN W3 (w.heap.size + 1) 66 #[.int .i64 X.ds, .slice (some ⟨g, 0, none⟩) N cc, .slice pa F pc] := by
    have := e4
    rw [HQ.out, HN.out, HF.out] at this
    exact this
  rw [HF.out] at hol
  have HOL := Lib.hid hol
  have y1 : W3.cell? ⟨w.heap.size + 1, 1, none⟩ = some (.slice (some ⟨g, 0, none⟩) N cc) := e5.cell 1
  clear hol e4 hS4 ho1 ho2 ho1' ho2' hb1 hb2 hB1 hB2 e0 e1 e2 e3 c1 c2 HC HF2 hB0 hk3 hw1s hgg
  go_wp2_with fail
  go_loopw [29] (fun i wr => ∃ (k : Nat) (qk : List Cq), k ≤ N ∧ i = .int .i64 k ∧ OL w wr w.heap.size g cc (.slice pa F pc) q qk X k ∧ BoxN wr (w.heap.size + 1) 66 #[.int .i64 X.ds, .slice (some ⟨g, 0, none⟩) N cc, .slice pa F pc]) (fun i _ => N - (intOf i).toNat)
  case atStart => exact ⟨0, q, Nat.zero_le _, rfl, HOL.out, e5⟩
  case round =>
    obtain ⟨k, qk, hk, rfl, hol, hbox⟩ := hrel
    have HOLk := Lib.hid hol
    have HBX := Lib.hid hbox
    clear hol hbox y1
    by_cases hlt : k < N
    · have d2 : decide ((k : Int) < (N : Int)) = true := yb (by omega)
      have hkX : k < X.cs.length := by rw [HN.out]; exact hlt
      have hat := at_any wr (w.heap.size + 1) 66 g 0 cc (.slice pa F pc) qk X k hkX ⟨by rw [HN.out]; exact HBX.out, HOLk.out.pt⟩
      rw [Nat.zero_add] at hat
      have HAT := Lib.hid hat
      have hrow := PtW.node HOLk.out.pt k hkX
      rw [Nat.zero_add] at hrow
      obtain ⟨y, HY⟩ : ∃ y, Hid (gq qk k = y) := ⟨_, rfl⟩
      have hcr := HOLk.out.cop k
      rw [HY.out] at hrow hcr
      obtain ⟨a0, a1, a2, a3, a4, a5⟩ := hrow
      have ho1 : wr.heap.size ≤ wr.heap.size := Nat.le_refl _
      have hwk : IntKind.i64.wrap ((k : Int) + 1) = (k : Int) + 1 := IntWalk.i64_in _ (by omega)
      obtain ⟨tks, htks⟩ : ∃ l, (gc X.cs k).tk = l := ⟨_, rfl⟩
      obtain ⟨kps, hkps⟩ : ∃ l, (gc X.cs k).kp = l := ⟨_, rfl⟩
      have hrt : RdG wr y.tv tks := by rw [← htks]; exact hcr.tk
      have hrk : RdG wr y.kv kps := by rw [← hkps]; exact hcr.kp
      have hlt1 := (HS.out.tg k).1
      have hlt2 := (HS.out.tg k).2
      rw [htks] at hlt1
      rw [hkps] at hlt2
      have HX1 := Lib.hid htks
      have HX2 := Lib.hid hkps
      clear htks hkps hcr
      have HTKc := fun w' (hb : Below wr.heap.size wr w') => cloneG_any y.tv tks (by omega) w' (hrt.keep hb)
      have HKPc := fun w' (hb : Below wr.heap.size wr w') => cloneG_any y.kv kps (by omega) w' (hrk.keep hb)
      have z1 := HOLk.out.rows.frozenAt (k * 6 + 4)
      have z2 := HOLk.out.rows.frozenAt (k * 6 + 5)
      have hgl := (HOLk.out.rows.lt g rfl).2
      go_upto_region 7 with (go_at_call 43; refine HAT.out.mono ?_; rintro e w9 ⟨rfl, hw9⟩; obtain rfl := hw9.symm)
      clear a0 a1 a2 a3
      refine wp_region_noPanic ?_
      refine wp_region_late (fun _ => True) (fun w' => Below wr.heap.size wr w') [14, 17] (by kernel_rfl) trivial ((Below.refl _ wr).drew) (fun hHeld0 hHeld => ?_)
      refine reg0_tk (v := ?_) 0 36 rfl rfl (by kernel_rfl) (by kernel_rfl) (by kernel_rfl) (by kernel_rfl) (by kernel_rfl) (fun _ _ _ h => h) (by rfl) ?_ (by assumption) (by assumption) ?_
      rotate_left
      · (intro w3 hS; (try dsimp only at hS); skip; go_simp; (try with_reducible rfl))
      simp only [List.setIfInBounds_toArray, List.set_cons_zero, List.set_cons_succ]
      refine reg0_tk (v := ?_) 1 37 rfl rfl (by kernel_rfl) (by kernel_rfl) (by kernel_rfl) (by kernel_rfl) (by kernel_rfl) (fun _ _ _ h => h) (by rfl) ?_ (by assumption) (by assumption) ?_
      rotate_left
      · (intro w3 hS; (try dsimp only at hS); skip; go_simp; (try with_reducible rfl))
      simp only [List.setIfInBounds_toArray, List.set_cons_zero, List.set_cons_succ]
      refine reg0_tk (v := ?_) 2 38 rfl rfl (by kernel_rfl) (by kernel_rfl) (by kernel_rfl) (by kernel_rfl) (by kernel_rfl) (fun _ _ _ h => h) (by rfl) ?_ (by assumption) (by assumption) ?_
      rotate_left
      · (intro w3 hS; (try dsimp only at hS); skip; go_simp; (try with_reducible rfl))
      simp only [List.setIfInBounds_toArray, List.set_cons_zero, List.set_cons_succ]
      refine reg0_tk (v := ?_) 3 39 rfl rfl (by kernel_rfl) (by kernel_rfl) (by kernel_rfl) (by kernel_rfl) (by kernel_rfl) (fun _ _ _ h => h) (by rfl) ?_ (by assumption) (by assumption) ?_
      rotate_left
      · (intro w3 hS; (try dsimp only at hS); skip; go_simp; (try with_reducible rfl))
      simp only [List.setIfInBounds_toArray, List.set_cons_zero, List.set_cons_succ]
      refine reg0_tk (v := ?_) 4 40 rfl rfl (by kernel_rfl) (by kernel_rfl) (by kernel_rfl) (by kernel_rfl) (by kernel_rfl) (fun _ _ _ h => h) (by rfl) ?_ (by assumption) (by assumption) ?_
      rotate_left
      · (intro w3 hS; (try dsimp only at hS); skip; go_simp; (try with_reducible rfl))
      simp only [List.setIfInBounds_toArray, List.set_cons_zero, List.set_cons_succ]
      refine regG_tk (v := ?_) 5 41 rfl rfl (by kernel_rfl) (by kernel_rfl) (by kernel_rfl) (by kernel_rfl) (by kernel_rfl) (fun _ _ _ h => h) (by rfl) ?_ (by assumption) (by assumption) ?_
      rotate_left
      · (intro w3 hS; (try dsimp only at hS); have g := cell_later hS a4; go_simp; (try with_reducible rfl))
      simp only [List.setIfInBounds_toArray, List.set_cons_zero, List.set_cons_succ]
      refine reg0_tk (v := ?_) 7 43 rfl rfl (by kernel_rfl) (by kernel_rfl) (by kernel_rfl) (by kernel_rfl) (by kernel_rfl) (fun _ _ _ h => h) (by rfl) ?_ (by assumption) (by assumption) ?_
      rotate_left
      · (intro w3 hS; (try dsimp only at hS); skip; go_simp; (try with_reducible rfl))
      simp only [List.setIfInBounds_toArray, List.set_cons_zero, List.set_cons_succ]
      refine reg0_tk (v := ?_) 8 44 rfl rfl (by kernel_rfl) (by kernel_rfl) (by kernel_rfl) (by kernel_rfl) (by kernel_rfl) (fun _ _ _ h => h) (by rfl) ?_ (by assumption) (by assumption) ?_
      rotate_left
      · (intro w3 hS; (try dsimp only at hS); skip; go_simp; (try with_reducible rfl))
      simp only [List.setIfInBounds_toArray, List.set_cons_zero, List.set_cons_succ]
      refine reg0_tk (v := ?_) 9 45 rfl rfl (by kernel_rfl) (by kernel_rfl) (by kernel_rfl) (by kernel_rfl) (by kernel_rfl) (fun _ _ _ h => h) (by rfl) ?_ (by assumption) (by assumption) ?_
      rotate_left
      · (intro w3 hS; (try dsimp only at hS); skip; go_simp; (try with_reducible rfl))
      simp only [List.setIfInBounds_toArray, List.set_cons_zero, List.set_cons_succ]
      refine regG_tk (v := ?_) 10 46 rfl rfl (by kernel_rfl) (by kernel_rfl) (by kernel_rfl) (by kernel_rfl) (by kernel_rfl) (fun _ _ _ h => h) (by rfl) ?_ (by assumption) (by assumption) ?_
      rotate_left
      · (intro w3 hS; (try dsimp only at hS); have g := cell_later hS a5; go_simp; (try with_reducible rfl))
      simp only [List.setIfInBounds_toArray, List.set_cons_zero, List.set_cons_succ]
      refine wpAnyG_oneS (i := 6) (by kernel_rfl) rfl (by rfl) (fun K hK => ?_)
      go_simp
      refine (HTKc wr.drew hHeld).mono ?_
      rintro e w1 ⟨ta, tc, rfl, hq1, hb1⟩
      have hB1 := Below.next hHeld hb1
      refine hK _ _ trivial hB1 ?_
      clear hK K
      try simp only [Act.put, List.setIfInBounds_toArray, List.set_cons_zero, List.set_cons_succ]
      refine wpAnyG_oneS (i := 11) (by kernel_rfl) rfl (by rfl) (fun K hK => ?_)
      go_simp
      refine (HKPc w1 hB1).mono ?_
      rintro e w2 ⟨ka, kc, rfl, hq2, hb2⟩
      have hB2 := Below.next hB1 hb2
      have hst := HOLk.out.step hkX (ta := ta) (tc := tc) (ka := ka) (kc := kc) (w1 := w1) (w2 := w2) (by rw [HX1.out]; exact hq1) (by exact hB1) (by rw [HX2.out]; exact hq2) hb2
      rw [HX1.out, HX2.out] at hst
      have hk2 : Kx (fun k => k = g) wr ((w2.setCell ⟨g, k * 6 + 4, none⟩ (.slice ta tks.length tc)).setCell ⟨g, k * 6 + 5, none⟩ (.slice ka kps.length kc)) := ((Kx.of_below (X := fun k => k = g) hB2).setCell (.inl rfl) _).setCell (.inl rfl) _
      have hbx2 := hk2.box (by
        intro e
        have h1 := HBX.out
        rw [e] at h1
        exact row_ne HOLk.out.rows h1 (by decide) g rfl rfl) HBX.out
      have HST := Lib.hid hst
      have HBX2 := Lib.hid hbx2
      have v1 := cell_later hB2 a4
      have v3 := cell_later hB2 a5
      have v4 : w2.frozen? ⟨g, k * 6 + 4, none⟩ = false := fz_later hB2 hgl z1
      have v5 : w2.frozen? ⟨g, k * 6 + 5, none⟩ = false := fz_later hB2 hgl z2
      clear hst hk2 hbx2 hq1 hq2 hb1 hb2 hB1 z1 z2
      refine hK _ _ trivial hB2 ?_
      clear hK K
      try simp only [Act.put, List.setIfInBounds_toArray, List.set_cons_zero, List.set_cons_succ]
      refine reg0_tk (v := ?_) 12 48 rfl rfl (by kernel_rfl) (by kernel_rfl) (by kernel_rfl) (by kernel_rfl) (by kernel_rfl) (fun _ _ _ h => h) (by rfl) ?_ (by assumption) (by assumption) ?_
      rotate_left
      · (intro w3 hS; (try dsimp only at hS); skip; go_simp; (try with_reducible rfl))
      simp only [List.setIfInBounds_toArray, List.set_cons_zero, List.set_cons_succ]
      refine reg0_tk (v := ?_) 13 49 rfl rfl (by kernel_rfl) (by kernel_rfl) (by kernel_rfl) (by kernel_rfl) (by kernel_rfl) (fun _ _ _ h => h) (by rfl) ?_ (by assumption) (by assumption) ?_
      rotate_left
      · (intro w3 hS; (try dsimp only at hS); skip; go_simp; (try with_reducible rfl))
      simp only [List.setIfInBounds_toArray, List.set_cons_zero, List.set_cons_succ]
      refine wpAnyG_one (i := 14) (by kernel_rfl) rfl (by rfl) (by kernel_rfl) (fun K hK => ?_)
      go_simp
      refine hK _ _ trivial ?_
      clear hK K
      try simp only [Act.put, List.setIfInBounds_toArray, List.set_cons_zero, List.set_cons_succ]
      refine wpAnyG_one (i := 15) (by kernel_rfl) rfl (by rfl) (by kernel_rfl) (fun K hK => ?_)
      go_simp
      refine hK _ _ trivial ?_
      clear hK K
      try simp only [Act.put, List.setIfInBounds_toArray, List.set_cons_zero, List.set_cons_succ]
      refine wpAnyG_one (i := 16) (by kernel_rfl) rfl (by rfl) (by kernel_rfl) (fun K hK => ?_)
      go_simp
      refine hK _ _ trivial ?_
      clear hK K
      try simp only [Act.put, List.setIfInBounds_toArray, List.set_cons_zero, List.set_cons_succ]
      refine wpAnyG_one (i := 17) (by kernel_rfl) rfl (by rfl) (by kernel_rfl) (fun K hK => ?_)
      go_simp
      refine hK _ _ trivial ?_
      clear hK K
      try simp only [Act.put, List.setIfInBounds_toArray, List.set_cons_zero, List.set_cons_succ]
      refine wpAnyG_done (by kernel_rfl) ?_ _
      refine NoPanic.normal ?_
      go_wp2_with fail
      go_roundw
      case rel => exact ⟨k + 1, _, by omega, by go_num, HST.out, HBX2.out⟩
      case measure => simp [intOf]; omega
    · obtain rfl : k = N := by omega
      have d2 : decide ((k : Int) < (k : Int)) = false := nb (by omega)
      have hfin := HOLk.out
      rw [← HN.out] at hfin
      have HR : Hid (OP wr w.heap.size (w.heap.size + 1) g cc (.slice pa F pc) qk X ∧ Below w.heap.size w wr) := Lib.hid ⟨⟨by rw [HN.out]; exact HBX.out, hfin.fin, by omega⟩, hfin.bel⟩
      clear hfin
      go_wp2_with fail
      go_ret
      exact ⟨_, _, _, _, _, rfl, HR.out.1, HR.out.2⟩
end Go.Proofs.Ytnkpjfogjkjcfaa
