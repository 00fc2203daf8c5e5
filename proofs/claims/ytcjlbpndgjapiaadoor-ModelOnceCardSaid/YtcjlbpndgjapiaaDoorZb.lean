/- Delivered, in the reference. Next, in the reference. -/
import Derived.Test.YtcjlbpndgjapiaaDoorZf
import Derived.Test.YtcjlbpndgjapiaaDoorRT
namespace Go.Proofs.YtcjlbpndgjapiaaDoor
open Go.RowKit
set_option linter.unusedSimpArgs false
set_option linter.unusedVariables false
set_option maxRecDepth 100000

theorem EId : ElemOk Tryd.prog 48 26 (.agg #[.int .i64 0, .int .u64 0, .int .i64 0]) 3 24 := ⟨Tryd.underlying48, by kernel_rfl, rfl, by decide⟩
theorem rds_id (W : World) (i : Idn) (T : TypeId) : RdS (W.alloc (.cells #[.int .i64 i.nd, .int .u64 i.sq, .int .i64 i.off] T)) 3 (.slice (some ⟨W.heap.size, 0, none⟩) 1 1) 1 (rcs idR [i]) := by
  refine ⟨rfl, by decide, .inr ⟨W.heap.size, 0, 1, rfl, Nat.le_refl _, fun j u hj => ?_⟩⟩
  match j, hj with
  | 0, hj => simp [rcs, idR, Idn.cs] at hj; subst hj; simp [go_sem]
  | 1, hj => simp [rcs, idR, Idn.cs] at hj; subst hj; simp [go_sem]
  | 2, hj => simp [rcs, idR, Idn.cs] at hj; subst hj; simp [go_sem]
  | j + 3, hj => simp [rcs, idR, Idn.cs] at hj
/-- those of the first j bundles that are asked for -/
def selT (ws : List Bd) (S : List Ft) (p : Bd → Ft → Bool) (j : Nat) : List Idn := ((List.range j).filter fun k => p (ws.getD k b0) (S.getD k f0)).map fun k => (ws.getD k b0).id
theorem selT_succ (ws : List Bd) (S : List Ft) (p : Bd → Ft → Bool) (j : Nat) : selT ws S p (j + 1) = selT ws S p j ++ if p (ws.getD j b0) (S.getD j f0) = true then [(ws.getD j b0).id] else [] := by
  unfold selT
  rw [List.range_succ, List.filter_append, List.map_append]
  by_cases h : p (ws.getD j b0) (S.getD j f0) = true
  · simp only [List.filter_cons, if_pos h, List.filter_nil, List.map_cons, List.map_nil]
  · simp only [List.filter_cons, if_neg h, List.filter_nil, List.map_nil]
theorem selT_len (ws : List Bd) (S : List Ft) (p : Bd → Ft → Bool) : ∀ j, (selT ws S p j).length ≤ j
  | 0 => Nat.le_refl _
  | j + 1 => by rw [selT_succ, List.length_append]; have := selT_len ws S p j; split <;> simp <;> omega
theorem selT_yes {ws : List Bd} {S : List Ft} {p : Bd → Ft → Bool} {j : Nat} {L : List Idn} (hL : selT ws S p j = L) (h : p (ws.getD j b0) (S.getD j f0) = true) : selT ws S p (j + 1) = L ++ [(ws.getD j b0).id] := by rw [selT_succ, hL, if_pos h]
theorem selT_no {ws : List Bd} {S : List Ft} {p : Bd → Ft → Bool} {j : Nat} {L : List Idn} (hL : selT ws S p j = L) (h : p (ws.getD j b0) (S.getD j f0) = false) : selT ws S p (j + 1) = L := by rw [selT_succ, hL, if_neg (by rw [h]; simp), List.append_nil]
theorem fatE_chk {ws : List Bd} {l : List Oc} (h : fatE ws l = 0) : chkE ws l = 0 := by
  unfold fatE at h
  split at h
  · rename_i h1; exact absurd h h1
  · rename_i h1; exact Decidable.byContradiction h1
def deV (ws : List Bd) (l : List Oc) : List Idn := if fatE ws l = 0 then delV ws l else []
set_option maxHeartbeats 2000000 in
theorem rdelivered_any (v u : Value) (ws : List Bd) (l : List Oc) (w : World) (h : Wr w v u ws l) : Calls Tryd.prog 27 #[v, u] w fun e w' => ∃ x, e = .returned (.tuple #[x, .int .i64 (fatE ws l)]) ∧ RdD w' x (deV ws l) ∧ Below w.heap.size w w' := by
  obtain ⟨a0, n0, rfl⟩ := h.rb.form
  have hmx := h.rb.2.1
  unfold maxLen at hmx
  obtain ⟨N, hN⟩ : ∃ N, ws.length = N := ⟨_, rfl⟩
  have HN := Lib.hid hN
  have HH := Lib.hid h
  have HC := Lib.hid (rfates_any _ u ws l w h)
  rw [hN] at hmx HC HH ⊢
  clear h hN
  go_enter Tryd.func27, Tryd.ntmps27
  go_wp2_with fail
  refine HC.out.mono ?_
  rintro e w1 ⟨hb1, hcase⟩
  have HB1 := Lib.hid hb1
  replace HH := Lib.hid (HH.out.keep hb1)
  clear hb1 HC
  rcases hcase with ⟨hne, rfl⟩ | ⟨he0, g, rfl, hOW⟩
  · have HV : Hid (deV ws l = []) := Lib.hid (by unfold deV; rw [if_neg hne])
    obtain ⟨z2, hz2⟩ : ∃ z2, fatE ws l = z2 := ⟨_, rfl⟩
    rw [hz2] at hne ⊢
    have HZ2 := Lib.hid hz2
    have d4 : (z2 != 0) = true := by simpa using hne
    clear hne hz2
    go_wp2_with fail
    go_ret2
    exact ⟨_, by rw [HZ2.out]; rfl, by rw [HV.out]; exact RdL.nil _ _, HB1.out⟩
  · have HV : Hid (deV ws l = selT ws (folW ws l).1 (fun _ f => f.dl) N) := Lib.hid (by unfold deV; rw [if_pos he0, ← HN.out]; rfl)
    have hSl : (folW ws l).1.length = N := by rw [folW_len, HN.out]
    have HE0 := Lib.hid he0
    have h200 : N ≤ 200 := by rw [← HN.out]; exact (chk_world (chkE_parts (fatE_chk he0)).1).1
    obtain ⟨S, hS⟩ : ∃ S, (folW ws l).1 = S := ⟨_, rfl⟩
    rw [hS] at hSl HV hOW
    rw [HN.out] at hOW ⊢
    have HOWF := Lib.hid hOW
    have HSL := Lib.hid hSl
    clear he0 hS hSl hOW
    go_wp2_with fail
    rename World => wq
    go_loopw [8, 9] (fun ov iv wr => ∃ (k : Nat) (a : Option Addr) (c : Nat), k ≤ N ∧ iv = .int .i64 k ∧ ov = .slice a (selT ws S (fun _ f => f.dl) k).length c ∧ wr.ownsRow wq.heap.size 26 3 (.slice a (selT ws S (fun _ f => f.dl) k).length c) (selT ws S (fun _ f => f.dl) k).length (rcs idR (selT ws S (fun _ f => f.dl) k)) ∧ Below wq.heap.size wq wr) (fun _ iv _ => N - (intOf iv).toNat)
    case atStart => exact ⟨0, none, 0, Nat.zero_le _, rfl, rfl, ⟨rfl, .inl ⟨rfl, rfl⟩⟩, Below.refl _ _⟩
    case round =>
      obtain ⟨k, a, c, hkN, rfl, rfl, hOW, hB⟩ := hrel
      by_cases hlt : k < N
      · have d2 : decide ((k : Int) < (N : Int)) = true := yb (by omega)
        obtain ⟨b1, o1, rfl, hc1, hrow⟩ := RdB.at (HH.out.rb.keep hB) HN.out k hlt
        obtain ⟨y, HY⟩ : ∃ y, Hid (gb ws k = y) := ⟨_, Lib.hid rfl⟩
        rw [HY.out] at hrow
        obtain ⟨g0, g1, g2, _⟩ := hrow
        obtain ⟨f, HF⟩ : ∃ f, Hid (S.getD k f0 = f) := ⟨_, Lib.hid rfl⟩
        have cD := (HOWF.out.keep hB).at HSL.out hlt (j := 35) (by omega)
        rw [HF.out, show (frs f)[35]? = some (.bool f.dl) from frs_tail f 1] at cD
        have i1 : (0 : Int) ≤ (k : Int) := by omega
        have i2 : (k : Int) < (N : Int) := by omega
        have hwk : IntKind.i64.wrap (k : Int) = (k : Int) := IntWalk.i64_in _ (by omega)
        have hwk1 : IntKind.i64.wrap ((k : Int) + 1) = (k : Int) + 1 := IntWalk.i64_in _ (by omega)
        have hll := selT_len ws S (fun _ f => f.dl) k
        obtain ⟨L, hL⟩ : ∃ L, selT ws S (fun _ f => f.dl) k = L := ⟨_, rfl⟩
        have HSL2 := Lib.hid hL
        rw [hL] at hll hOW ⊢
        have HLL := Lib.hid hll
        have HOW := Lib.hid hOW
        have HB := Lib.hid hB
        have HLT := Lib.hid hlt
        have HMX := Lib.hid h200
        clear hll hOW hB hL hlt
        cases hb : f.dl with
        | true =>
          rw [hb] at cD
          have HE : Hid (selT ws S (fun _ f => f.dl) (k + 1) = L ++ [y.id]) := Lib.hid (by rw [← HY.out]; exact selT_yes HSL2.out (by show (S.getD k f0).dl = _; rw [HF.out]; exact hb))
          clear hb HSL2
          go_wp2_with (at_builtin; refine wpList_app rfl (.tmp 30) (.tmp 36) 48 rfl wq.heap.size 26 _ 3 24 EId _ _ _ rfl (HOW.out.alloc _) _ 1 (rcs idR [y.id]) rfl (rds_id _ _ _) (rcs_one idR _) ?c1 ?c2 ?c3 ?_)
          case c1 => have := HLL.out; have := HLT.out; have := HMX.out; unfold maxLen; omega
          case c2 => have := HLL.out; have := HLT.out; have := HMX.out; omega
          case c3 => have := HB.out.size; simp; omega
          intro a3 c3 w3 hown3 hg3 hb3
          have hown3 : w3.ownsRow wq.heap.size 26 3 (.slice a3 (L.length + 1) c3) (L.length + 1) (rcs idR L ++ rcs idR [y.id]) := by with_reducible exact hown3
          have HB5 : Hid (Below wq.heap.size wq w3) := Lib.hid ((Below.al HB.out _).trans hb3)
          have HOW3 := Lib.hid hown3
          clear hown3 hg3 hb3 HOW HB
          go_wp2_with fail
          go_roundw
          case rel => exact ⟨k + 1, a3, c3, by have := HLT.out; omega, by go_num, by rw [HE.out, List.length_append]; rfl, by rw [HE.out, List.length_append, rcs_append]; exact HOW3.out, HB5.out⟩
          case measure => simp [intOf]; have := HLT.out; omega
        | false =>
          rw [hb] at cD
          have HE : Hid (selT ws S (fun _ f => f.dl) (k + 1) = L) := Lib.hid (selT_no HSL2.out (by show (S.getD k f0).dl = _; rw [HF.out]; exact hb))
          clear hb HSL2
          go_wp2_with fail
          go_roundw
          case rel => exact ⟨k + 1, a, c, by have := HLT.out; omega, by go_num, by rw [HE.out], by rw [HE.out]; exact HOW.out, HB.out⟩
          case measure => simp [intOf]; have := HLT.out; omega
      · obtain rfl : k = N := by omega
        have d2 : decide ((k : Int) < (k : Int)) = false := nb (by omega)
        have HOW := Lib.hid hOW
        have HB := Lib.hid hB
        clear hOW hB
        go_wp2_with fail
        go_ret2
        exact ⟨_, by rw [HE0.out]; rfl, by rw [HV.out]; exact RdS.of_owns HOW.out (by decide), Below.next HB1.out HB.out⟩
end Go.Proofs.YtcjlbpndgjapiaaDoor
namespace Go.Proofs.YtcjlbpndgjapiaaDoor
open Go.RowKit
set_option linter.unusedSimpArgs false
set_option linter.unusedVariables false
set_option maxRecDepth 100000

theorem EOc : ElemOk Tryd.prog 23 28 (.agg #[.int .i64 0, .int .i64 0, .int .i64 0, .int .i64 0, .int .u64 0, .int .i64 0, .int .i64 0]) 7 56 := ⟨Tryd.underlying23, by kernel_rfl, rfl, by decide⟩
theorem rds_oc (W : World) (o : Oc) (T : TypeId) : RdS (W.alloc (.cells #[.int .i64 o.tk, .int .i64 o.nd, .int .i64 o.kd, .int .i64 o.id.nd, .int .u64 o.id.sq, .int .i64 o.id.off, .int .i64 o.ot] T)) 7 (.slice (some ⟨W.heap.size, 0, none⟩) 1 1) 1 (rcs ocR [o]) := by
  refine ⟨rfl, by decide, .inr ⟨W.heap.size, 0, 1, rfl, Nat.le_refl _, fun j u hj => ?_⟩⟩
  match j, hj with
  | 0, hj => simp [rcs, ocR, Oc.cs] at hj; subst hj; simp [go_sem]
  | 1, hj => simp [rcs, ocR, Oc.cs] at hj; subst hj; simp [go_sem]
  | 2, hj => simp [rcs, ocR, Oc.cs] at hj; subst hj; simp [go_sem]
  | 3, hj => simp [rcs, ocR, Oc.cs] at hj; subst hj; simp [go_sem]
  | 4, hj => simp [rcs, ocR, Oc.cs] at hj; subst hj; simp [go_sem]
  | 5, hj => simp [rcs, ocR, Oc.cs] at hj; subst hj; simp [go_sem]
  | 6, hj => simp [rcs, ocR, Oc.cs] at hj; subst hj; simp [go_sem]
  | j + 7, hj => simp [rcs, ocR, Oc.cs] at hj
theorem chkE_of {ws : List Bd} {l : List Oc} (h : (chkW ws).1 = 0) : chkE ws l = (chkT l).1 := by
  unfold chkE
  rw [if_neg (by rw [h]; simp)]
/-- what Next answers -/
def NxR (w : World) (ws : List Bd) (l : List Oc) (o : Oc) (e : Ending) (w' : World) : Prop := e = .returned (.tuple #[.bool (nxtV ws l o).1, .int .i64 (nxtV ws l o).2]) ∧ Below w.heap.size w w'
theorem owk {w w' : World} {base : Nat} {e : TypeId} {size : Nat} {v : Value} {n : Nat} {xs : List Value} (h : w.ownsRow base e size v n xs) (hb : Below w.heap.size w w') : w'.ownsRow base e size v n xs :=
  World.ownsRow.kept (row := none) h ⟨hb.os, hb.tape, hb.output, hb.size, fun k hk _ => hb.block k hk⟩ (by cases v.ownBlock <;> simp)
set_option maxHeartbeats 4000000 in
theorem rnext_any (v u : Value) (ws : List Bd) (l : List Oc) (o : Oc) (w : World) (h : Wr w v u ws l) : Calls Tryd.prog 17 #[v, u, o.v] w (NxR w ws l o) := by
  obtain ⟨a1, n1, rfl⟩ := h.ro.form
  have hmx := h.ro.2.1
  unfold maxLen at hmx
  obtain ⟨M, hM⟩ : ∃ M, l.length = M := ⟨_, rfl⟩
  obtain ⟨W, hW⟩ : ∃ W : World, W = w.alloc (.cells #[.int .i64 o.tk, .int .i64 o.nd, .int .i64 o.kd, .int .i64 o.id.nd, .int .u64 o.id.sq, .int .i64 o.id.off, .int .i64 o.ot] 28) := ⟨_, rfl⟩
  have hB : Below w.heap.size w W := by rw [hW]; exact (by repeat (first | assumption | exact Below.refl _ _ | apply Below.al | apply below_drewN | apply Below.drew | refine Below.next ?_ (by assumption)))
  have bI : BoxN W w.heap.size 28 #[.int .i64 o.tk, .int .i64 o.nd, .int .i64 o.kd, .int .i64 o.id.nd, .int .u64 o.id.sq, .int .i64 o.id.off, .int .i64 o.ot] := by rw [hW]; exact BoxN.new w _ _
  have h0 : W.cell? ⟨w.heap.size, 0, none⟩ = some (.int .i64 o.tk) := bI.cell 0
  have h1 : W.cell? ⟨w.heap.size, 1, none⟩ = some (.int .i64 o.nd) := bI.cell 1
  have h2 : W.cell? ⟨w.heap.size, 2, none⟩ = some (.int .i64 o.kd) := bI.cell 2
  have h3 : W.cell? ⟨w.heap.size, 3, none⟩ = some (.int .i64 o.id.nd) := bI.cell 3
  have h4 : W.cell? ⟨w.heap.size, 4, none⟩ = some (.int .u64 o.id.sq) := bI.cell 4
  have h5 : W.cell? ⟨w.heap.size, 5, none⟩ = some (.int .i64 o.id.off) := bI.cell 5
  have h6 : W.cell? ⟨w.heap.size, 6, none⟩ = some (.int .i64 o.ot) := bI.cell 6
  clear bI
  have HM := Lib.hid hM
  have HH := Lib.hid (h.keep hB)
  have HC := Lib.hid (rchecked_any v _ ws l W HH.out)
  obtain ⟨z, hz⟩ : ∃ z, chkE ws l = z := ⟨_, rfl⟩
  rw [hz] at HC
  have HZ := Lib.hid hz
  obtain ⟨X, Y, hXY⟩ : ∃ X Y, nxtV ws l o = (X, Y) := ⟨_, _, rfl⟩
  have HXY := Lib.hid hXY
  have HEND : Hid (∀ w', Below w.heap.size w w' → NxR w ws l o (.returned (.tuple #[.bool X, .int .i64 Y])) w') := Lib.hid (fun w' hb => by unfold NxR; rw [hXY]; exact ⟨rfl, hb⟩)
  have HB := Lib.hid hB
  obtain ⟨Q, hQ⟩ : ∃ Q, w.heap.size = Q := ⟨_, rfl⟩
  have HQ := Lib.hid hQ
  rw [hQ] at h0 h1 h2 h3 h4 h5 h6
  rw [hM] at hmx HC HH ⊢
  clear h hB hM hz hXY hQ
  go_enter Tryd.func17, Tryd.ntmps17
  go_upto_region 1 with fail
  rw [← hW, HQ.out]
  clear hW
  go_wp2_with fail
  refine HC.out.mono ?_
  rintro e w1 ⟨rfl, hb1⟩
  have h0 := cell_later hb1 h0
  have h1 := cell_later hb1 h1
  have h2 := cell_later hb1 h2
  have h3 := cell_later hb1 h3
  have h4 := cell_later hb1 h4
  have h5 := cell_later hb1 h5
  have h6 := cell_later hb1 h6
  replace HH := Lib.hid (HH.out.keep hb1)
  have HB1 := Lib.hid (Below.next HB.out hb1)
  have HFA := Lib.hid (rfates_any v _ ws l w1 HH.out)
  clear hb1 HC HB
  by_cases hz0 : z = 0
  · have d1 : (z != 0) = false := by simp [hz0]
    have he : chkE ws l = 0 := by rw [HZ.out, hz0]
    have HE := Lib.hid he
    clear hz0 he
    go_wp2_with fail
    refine HFA.out.mono ?_
    rintro e w2 ⟨hb2, hcase⟩
    have h0 := cell_later hb2 h0
    have h1 := cell_later hb2 h1
    have h2 := cell_later hb2 h2
    have h3 := cell_later hb2 h3
    have h4 := cell_later hb2 h4
    have h5 := cell_later hb2 h5
    have h6 := cell_later hb2 h6
    replace HH := Lib.hid (HH.out.keep hb2)
    replace HB1 := Lib.hid (Below.next HB1.out hb2)
    have hcase2 : ∃ x, e = .returned (.tuple #[x, .int .i64 (fatE ws l)]) := by
      rcases hcase with ⟨_, h⟩ | ⟨h, g, h', _⟩
      · exact ⟨_, h⟩
      · exact ⟨_, by rw [h]; exact h'⟩
    obtain ⟨fx, rfl⟩ := hcase2
    obtain ⟨z2, hz2⟩ : ∃ z2, fatE ws l = z2 := ⟨_, rfl⟩
    have HZ2 := Lib.hid hz2
    rw [hz2] at hcase ⊢
    clear hcase hb2 HFA hz2
    by_cases hz2 : z2 = 0
    · have d2 : (z2 != 0) = false := by simp [hz2]
      have hf0 : fatE ws l = 0 := by rw [HZ2.out, hz2]
      obtain ⟨e1, e2⟩ := chkE_parts HE.out
      have hM5 : M ≤ 5000 := by rw [← HM.out]; exact (chk_trace e2).1
      obtain ⟨W, rfl⟩ : ∃ V : World, V = w2 := ⟨_, rfl⟩
      obtain ⟨nn, ee, hne⟩ : ∃ nn ee, allV ws (l ++ [o]) = (nn, ee) := ⟨_, _, rfl⟩
      have HANS : Hid (Y = 0 ∧ X = (decide (ee = 0) && decide (nn = (M : Int) + 1))) := Lib.hid (by
        have h1 := HXY.out
        unfold nxtV at h1
        rw [if_neg (by rw [hf0]; simp)] at h1
        simp only [Prod.mk.injEq] at h1
        refine ⟨h1.2.symm, ?_⟩
        rw [← h1.1]
        unfold allV at hne
        rw [chkE_of e1] at hne
        split at hne
        · rename_i hc
          simp only [Prod.mk.injEq] at hne
          rw [← hne.2]
          simp [hc]
        · rename_i hc
          have hc2 : (chkT (l ++ [o])).1 = 0 := Decidable.byContradiction hc
          simp only [Prod.mk.injEq] at hne
          rw [← hne.1, ← hne.2, hc2, HM.out]
          simp only [true_and, decide_true, Bool.true_and, decide_eq_decide]
          omega)
      have HAL : Hid (∀ (u' : Value) (wS : World), Below W.heap.size W wS → RdS wS 7 u' (M + 1) (rcs ocR (l ++ [o])) → Calls Tryd.prog 15 #[v, u'] wS fun e w' => e = .returned (V2 nn ee) ∧ Below wS.heap.size wS w') := Lib.hid (fun u' wS hb hr => by
        have h2 := rallowed_any v u' ws (l ++ [o]) wS ⟨HH.out.rb.keep hb, by
          show RdS wS 7 u' (l ++ [o]).length (rcs ocR (l ++ [o]))
          rw [List.length_append, HM.out]; exact hr⟩
        rw [hne] at h2; exact h2)
      have HR1 : Hid (∀ w', Below W.heap.size W w' → RdS w' 7 (.slice a1 M n1) M (rcs ocR l)) := Lib.hid (fun w' hb => by
        have h2 := HH.out.ro.keep hb
        unfold RdO RdL at h2
        rw [HM.out] at h2; exact h2)
      clear hz2 hf0 e1 e2 hne
      have hw0 : Below W.heap.size W W.drew := (Below.refl _ W).drew
      have hBa : Below W.heap.size W W := Below.refl _ W
      go_upto_region 7 with fail
      refine wp_region_noPanic ?_
      refine wp_region_held_drew (S := (fun w' => Below W.heap.size W w')) (by kernel_rfl) hw0 (fun hHeld => ?_)
      refine reg_tk (v := ?_) 0 26 rfl rfl (by kernel_rfl) (by kernel_rfl) (by kernel_rfl) (fun _ _ _ h => h) (by rfl) ?_ (by assumption) ?_
      rotate_left
      · (intro w hSw; (try dsimp only at hSw); go_simp; (try with_reducible rfl))
      simp only [List.setIfInBounds_toArray, List.set_cons_zero, List.set_cons_succ]
      refine reg_tk (v := ?_) 2 28 rfl rfl (by kernel_rfl) (by kernel_rfl) (by kernel_rfl) (fun _ _ _ h => h) (by rfl) ?_ (by assumption) ?_
      rotate_left
      · (intro w hSw; (try dsimp only at hSw); go_simp; (try with_reducible rfl))
      simp only [List.setIfInBounds_toArray, List.set_cons_zero, List.set_cons_succ]
      refine reg_tk (v := o.v) 4 30 rfl rfl (by kernel_rfl) (by kernel_rfl) (by kernel_rfl) (fun _ _ _ h => h) (by rfl) (fun w3 hS => by (have x0 := cell_later hS h0; have x1 := cell_later hS h1; have x2 := cell_later hS h2; have x3 := cell_later hS h3; have x4 := cell_later hS h4; have x5 := cell_later hS h5; have x6 := cell_later hS h6); go_simp) (by assumption) ?_
      simp only [List.setIfInBounds_toArray, List.set_cons_zero, List.set_cons_succ]
      refine wpAnyH_ready (rs := [1, 5]) (by kernel_rfl) (by simp) ?_
      refine AllReadyH.cons rfl (fun K hK => ?_) (AllReadyH.cons rfl (fun K hK => ?_) AllReadyH.nil)
      · go_simp
        obtain ⟨v1w, hw1⟩ : ∃ V : World, V = (World.alloc W (.cells #[] 28)).drew := ⟨_, rfl⟩
        have hb1 : Below (World.heap W).size W v1w := by rw [hw1]; exact (Below.al (Below.refl _ _) _).drew
        have oA : World.ownsRow v1w W.heap.size 28 7 (.slice (some ⟨W.heap.size, 0, none⟩) 0 0) 0 [] := by rw [hw1]; exact owns_block _ _ 28 7 0 [] _ (by have := hBa.size; omega) (heap_last _ _) rfl (by decide)
        rw [← hw1]
        clear hw1
        have hBb := Below.next hBa hb1
        clear hBa
        have hBa := hBb
        clear hBb
        refine hK.out _ _ hBa (fun hHeld2 => ?_)
        clear hK K hHeld
        have hHeld := hHeld2
        clear hHeld2
        try simp only [Act.put, List.setIfInBounds_toArray, List.set_cons_zero, List.set_cons_succ]
        refine wpAnyH_ready (rs := [3, 5]) (by kernel_rfl) (by simp) ?_
        refine AllReadyH.cons rfl (fun K hK => ?_) (AllReadyH.cons rfl (fun K hK => ?_) AllReadyH.nil)
        · refine wp_app_new (.tmp 27) (.tmp 28) 23 rfl W.heap.size 28 _ 7 56 EOc _ rfl oA (.slice a1 M n1) M (rcs ocR l) rfl (HR1.out _ hBa) (rcs_one _ _) (by unfold maxLen; omega) (by omega) hBa.size ?_
          intro aA cA v2w oA2 hb2
          go_simp
          clear oA
          have oA := oA2
          clear oA2
          have hBb := Below.next hBa hb2
          clear hBa
          have hBa := hBb
          clear hBb
          refine hK.out _ _ hBa (fun hHeld2 => ?_)
          clear hK K hHeld
          have hHeld := hHeld2
          clear hHeld2
          try simp only [Act.put, List.setIfInBounds_toArray, List.set_cons_zero, List.set_cons_succ]
          refine wpAnyH_ready (rs := [5]) (by kernel_rfl) (by simp) ?_
          refine AllReadyH.cons rfl (fun K hK => ?_) AllReadyH.nil
          go_simp
          obtain ⟨v3w, hw3⟩ : ∃ V : World, V = World.alloc v2w (.cells #[.int .i64 o.tk, .int .i64 o.nd, .int .i64 o.kd, .int .i64 o.id.nd, .int .u64 o.id.sq, .int .i64 o.id.off, .int .i64 o.ot] 28) := ⟨_, rfl⟩
          have hb3 : Below (World.heap v2w).size v2w v3w := by rw [hw3]; exact Below.al (Below.refl _ _) _
          have hL : RdS v3w 7 (.slice (some ⟨(World.heap v2w).size, 0, none⟩) 1 1) 1 (rcs ocR [o]) := by rw [hw3]; exact rds_oc _ o _
          rw [← hw3]
          clear hw3
          replace oA := owk oA hb3
          have hBb := Below.next hBa hb3
          clear hBa
          have hBa := hBb
          clear hBb
          refine hK.out _ _ hBa (fun hHeld2 => ?_)
          clear hK K hHeld
          have hHeld := hHeld2
          clear hHeld2
          try simp only [Act.put, List.setIfInBounds_toArray, List.set_cons_zero, List.set_cons_succ]
          refine wpAnyH_ready (rs := [6]) (by kernel_rfl) (by simp) ?_
          refine AllReadyH.cons rfl (fun K hK => ?_) AllReadyH.nil
          refine wp_app (.tmp 29) (.tmp 31) 23 rfl W.heap.size 28 _ 7 56 EOc _ M (rcs ocR l) rfl oA _ 1 (rcs ocR [o]) rfl hL (rcs_one _ _) (by unfold maxLen; omega) (by omega) hBa.size ?_
          intro aB cB v4w oB hg4 hb4
          go_simp
          have hBb := hBa.trans hb4
          clear oA hL hg4
          clear hBa
          have hBa := hBb
          clear hBb
          refine hK.out _ _ hBa (fun hHeld2 => ?_)
          clear hK K hHeld
          have hHeld := hHeld2
          clear hHeld2
          try simp only [Act.put, List.setIfInBounds_toArray, List.set_cons_zero, List.set_cons_succ]
          refine wpAnyH_ready (rs := [7]) (by kernel_rfl) (by simp) ?_
          refine AllReadyH.cons rfl (fun K hK => ?_) AllReadyH.nil
          go_simp
          refine (HAL.out (.slice aB (M + 1) cB) _ hBa (by
            have e := RdS.of_owns oB (by decide)
            rw [← rcs_append] at e
            exact e)).mono ?_
          rintro e w6 ⟨rfl, hb6⟩
          have hBb := Below.next hBa hb6
          clear hBa
          have hBa := hBb
          clear hBb
          refine hK.out _ _ hBa (fun hHeld2 => ?_)
          clear hK K hHeld
          have hHeld := hHeld2
          clear hHeld2
          try simp only [Act.put, List.setIfInBounds_toArray, List.set_cons_zero, List.set_cons_succ]
          refine reg_tk (v := ?_) 8 25 rfl rfl (by kernel_rfl) (by kernel_rfl) (by kernel_rfl) (fun _ _ _ h => h) (by rfl) ?_ (by assumption) ?_
          rotate_left
          · (intro w hSw; (try dsimp only at hSw); go_simp; (try with_reducible rfl))
          simp only [List.setIfInBounds_toArray, List.set_cons_zero, List.set_cons_succ]
          refine reg_tk (v := ?_) 9 34 rfl rfl (by kernel_rfl) (by kernel_rfl) (by kernel_rfl) (fun _ _ _ h => h) (by rfl) ?_ (by assumption) ?_
          rotate_left
          · (intro w hSw; (try dsimp only at hSw); go_simp; (try with_reducible rfl))
          simp only [List.setIfInBounds_toArray, List.set_cons_zero, List.set_cons_succ]
          refine reg_tk (v := ?_) 10 35 rfl rfl (by kernel_rfl) (by kernel_rfl) (by kernel_rfl) (fun _ _ _ h => h) (by rfl) ?_ (by assumption) ?_
          rotate_left
          · (intro w hSw; (try dsimp only at hSw); go_simp; (try with_reducible rfl))
          simp only [List.setIfInBounds_toArray, List.set_cons_zero, List.set_cons_succ]
          refine reg_tk (v := ?_) 11 9 rfl rfl (by kernel_rfl) (by kernel_rfl) (by kernel_rfl) (fun _ _ _ h => h) (by rfl) ?_ (by assumption) ?_
          rotate_left
          · (intro w hSw; (try dsimp only at hSw); go_simp; (try with_reducible rfl))
          simp only [List.setIfInBounds_toArray, List.set_cons_zero, List.set_cons_succ]
          refine reg_tk (v := ?_) 12 8 rfl rfl (by kernel_rfl) (by kernel_rfl) (by kernel_rfl) (fun _ _ _ h => h) (by rfl) ?_ (by assumption) ?_
          rotate_left
          · (intro w hSw; (try dsimp only at hSw); go_simp; (try with_reducible rfl))
          simp only [List.setIfInBounds_toArray, List.set_cons_zero, List.set_cons_succ]
          refine wpAnyH_done (by kernel_rfl) ?_ _
          refine NoPanic.normal ?_
          have HFIN := Lib.hid (Below.next HB1.out hHeld)
          clear hHeld hBa oB h0 h1 h2 h3 h4 h5 h6 hw0 hb6
          have hwM : IntKind.i64.wrap ((M : Int) + 1) = (M : Int) + 1 := IntWalk.i64_in _ (by omega)
          by_cases hee : ee = 0
          · have d5 : (ee == 0) = true := by simp [hee]
            by_cases hnn : nn = (M : Int) + 1
            · have d6 : (nn == (M : Int) + 1) = true := by simp [hnn]
              have HX : Hid (X = true) := Lib.hid (by rw [HANS.out.2]; simp [hee, hnn])
              clear hee hnn
              go_wp2_with fail
              go_ret2
              have := HEND.out _ HFIN.out
              rw [HX.out, HANS.out.1] at this
              exact this
            · have d6 : (nn == (M : Int) + 1) = false := by simpa using hnn
              have HX : Hid (X = false) := Lib.hid (by rw [HANS.out.2]; simp [hnn])
              clear hee hnn
              go_wp2_with fail
              go_ret2
              have := HEND.out _ HFIN.out
              rw [HX.out, HANS.out.1] at this
              exact this
          · have d5 : (ee == 0) = false := by simpa using hee
            have HX : Hid (X = false) := Lib.hid (by rw [HANS.out.2]; simp [hee])
            clear hee
            go_wp2_with fail
            go_ret2
            have := HEND.out _ HFIN.out
            rw [HX.out, HANS.out.1] at this
            exact this
        · go_simp
          obtain ⟨v3w, hw3⟩ : ∃ V : World, V = World.alloc v1w (.cells #[.int .i64 o.tk, .int .i64 o.nd, .int .i64 o.kd, .int .i64 o.id.nd, .int .u64 o.id.sq, .int .i64 o.id.off, .int .i64 o.ot] 28) := ⟨_, rfl⟩
          have hb3 : Below (World.heap v1w).size v1w v3w := by rw [hw3]; exact Below.al (Below.refl _ _) _
          have hL : RdS v3w 7 (.slice (some ⟨(World.heap v1w).size, 0, none⟩) 1 1) 1 (rcs ocR [o]) := by rw [hw3]; exact rds_oc _ o _
          rw [← hw3]
          clear hw3
          replace oA := owk oA hb3
          have hBb := Below.next hBa hb3
          clear hBa
          have hBa := hBb
          clear hBb
          refine hK.out _ _ hBa (fun hHeld2 => ?_)
          clear hK K hHeld
          have hHeld := hHeld2
          clear hHeld2
          try simp only [Act.put, List.setIfInBounds_toArray, List.set_cons_zero, List.set_cons_succ]
          refine wpAnyH_ready (rs := [3]) (by kernel_rfl) (by simp) ?_
          refine AllReadyH.cons rfl (fun K hK => ?_) AllReadyH.nil
          refine wp_app_new (.tmp 27) (.tmp 28) 23 rfl W.heap.size 28 _ 7 56 EOc _ rfl oA (.slice a1 M n1) M (rcs ocR l) rfl (HR1.out _ hBa) (rcs_one _ _) (by unfold maxLen; omega) (by omega) hBa.size ?_
          intro aA cA v2w oA2 hb2
          go_simp
          clear oA
          have oA := oA2
          clear oA2
          replace hL := RdS.keep hb2 hL
          have hBb := Below.next hBa hb2
          clear hBa
          have hBa := hBb
          clear hBb
          refine hK.out _ _ hBa (fun hHeld2 => ?_)
          clear hK K hHeld
          have hHeld := hHeld2
          clear hHeld2
          try simp only [Act.put, List.setIfInBounds_toArray, List.set_cons_zero, List.set_cons_succ]
          refine wpAnyH_ready (rs := [6]) (by kernel_rfl) (by simp) ?_
          refine AllReadyH.cons rfl (fun K hK => ?_) AllReadyH.nil
          refine wp_app (.tmp 29) (.tmp 31) 23 rfl W.heap.size 28 _ 7 56 EOc _ M (rcs ocR l) rfl oA _ 1 (rcs ocR [o]) rfl hL (rcs_one _ _) (by unfold maxLen; omega) (by omega) hBa.size ?_
          intro aB cB v4w oB hg4 hb4
          go_simp
          have hBb := hBa.trans hb4
          clear oA hL hg4
          clear hBa
          have hBa := hBb
          clear hBb
          refine hK.out _ _ hBa (fun hHeld2 => ?_)
          clear hK K hHeld
          have hHeld := hHeld2
          clear hHeld2
          try simp only [Act.put, List.setIfInBounds_toArray, List.set_cons_zero, List.set_cons_succ]
          refine wpAnyH_ready (rs := [7]) (by kernel_rfl) (by simp) ?_
          refine AllReadyH.cons rfl (fun K hK => ?_) AllReadyH.nil
          go_simp
          refine (HAL.out (.slice aB (M + 1) cB) _ hBa (by
            have e := RdS.of_owns oB (by decide)
            rw [← rcs_append] at e
            exact e)).mono ?_
          rintro e w6 ⟨rfl, hb6⟩
          have hBb := Below.next hBa hb6
          clear hBa
          have hBa := hBb
          clear hBb
          refine hK.out _ _ hBa (fun hHeld2 => ?_)
          clear hK K hHeld
          have hHeld := hHeld2
          clear hHeld2
          try simp only [Act.put, List.setIfInBounds_toArray, List.set_cons_zero, List.set_cons_succ]
          refine reg_tk (v := ?_) 8 25 rfl rfl (by kernel_rfl) (by kernel_rfl) (by kernel_rfl) (fun _ _ _ h => h) (by rfl) ?_ (by assumption) ?_
          rotate_left
          · (intro w hSw; (try dsimp only at hSw); go_simp; (try with_reducible rfl))
          simp only [List.setIfInBounds_toArray, List.set_cons_zero, List.set_cons_succ]
          refine reg_tk (v := ?_) 9 34 rfl rfl (by kernel_rfl) (by kernel_rfl) (by kernel_rfl) (fun _ _ _ h => h) (by rfl) ?_ (by assumption) ?_
          rotate_left
          · (intro w hSw; (try dsimp only at hSw); go_simp; (try with_reducible rfl))
          simp only [List.setIfInBounds_toArray, List.set_cons_zero, List.set_cons_succ]
          refine reg_tk (v := ?_) 10 35 rfl rfl (by kernel_rfl) (by kernel_rfl) (by kernel_rfl) (fun _ _ _ h => h) (by rfl) ?_ (by assumption) ?_
          rotate_left
          · (intro w hSw; (try dsimp only at hSw); go_simp; (try with_reducible rfl))
          simp only [List.setIfInBounds_toArray, List.set_cons_zero, List.set_cons_succ]
          refine reg_tk (v := ?_) 11 9 rfl rfl (by kernel_rfl) (by kernel_rfl) (by kernel_rfl) (fun _ _ _ h => h) (by rfl) ?_ (by assumption) ?_
          rotate_left
          · (intro w hSw; (try dsimp only at hSw); go_simp; (try with_reducible rfl))
          simp only [List.setIfInBounds_toArray, List.set_cons_zero, List.set_cons_succ]
          refine reg_tk (v := ?_) 12 8 rfl rfl (by kernel_rfl) (by kernel_rfl) (by kernel_rfl) (fun _ _ _ h => h) (by rfl) ?_ (by assumption) ?_
          rotate_left
          · (intro w hSw; (try dsimp only at hSw); go_simp; (try with_reducible rfl))
          simp only [List.setIfInBounds_toArray, List.set_cons_zero, List.set_cons_succ]
          refine wpAnyH_done (by kernel_rfl) ?_ _
          refine NoPanic.normal ?_
          have HFIN := Lib.hid (Below.next HB1.out hHeld)
          clear hHeld hBa oB h0 h1 h2 h3 h4 h5 h6 hw0 hb6
          have hwM : IntKind.i64.wrap ((M : Int) + 1) = (M : Int) + 1 := IntWalk.i64_in _ (by omega)
          by_cases hee : ee = 0
          · have d5 : (ee == 0) = true := by simp [hee]
            by_cases hnn : nn = (M : Int) + 1
            · have d6 : (nn == (M : Int) + 1) = true := by simp [hnn]
              have HX : Hid (X = true) := Lib.hid (by rw [HANS.out.2]; simp [hee, hnn])
              clear hee hnn
              go_wp2_with fail
              go_ret2
              have := HEND.out _ HFIN.out
              rw [HX.out, HANS.out.1] at this
              exact this
            · have d6 : (nn == (M : Int) + 1) = false := by simpa using hnn
              have HX : Hid (X = false) := Lib.hid (by rw [HANS.out.2]; simp [hnn])
              clear hee hnn
              go_wp2_with fail
              go_ret2
              have := HEND.out _ HFIN.out
              rw [HX.out, HANS.out.1] at this
              exact this
          · have d5 : (ee == 0) = false := by simpa using hee
            have HX : Hid (X = false) := Lib.hid (by rw [HANS.out.2]; simp [hee])
            clear hee
            go_wp2_with fail
            go_ret2
            have := HEND.out _ HFIN.out
            rw [HX.out, HANS.out.1] at this
            exact this
      · go_simp
        obtain ⟨v3w, hw3⟩ : ∃ V : World, V = (World.alloc W (.cells #[.int .i64 o.tk, .int .i64 o.nd, .int .i64 o.kd, .int .i64 o.id.nd, .int .u64 o.id.sq, .int .i64 o.id.off, .int .i64 o.ot] 28)).drew := ⟨_, rfl⟩
        have hb3 : Below (World.heap W).size W v3w := by rw [hw3]; exact (Below.al (Below.refl _ _) _).drew
        have hL : RdS v3w 7 (.slice (some ⟨W.heap.size, 0, none⟩) 1 1) 1 (rcs ocR [o]) := by rw [hw3]; exact RdS.keep ((Below.refl _ _).drew) (rds_oc W o _)
        rw [← hw3]
        clear hw3
        have hBb := Below.next hBa hb3
        clear hBa
        have hBa := hBb
        clear hBb
        refine hK.out _ _ hBa (fun hHeld2 => ?_)
        clear hK K hHeld
        have hHeld := hHeld2
        clear hHeld2
        try simp only [Act.put, List.setIfInBounds_toArray, List.set_cons_zero, List.set_cons_succ]
        refine wpAnyH_ready (rs := [1]) (by kernel_rfl) (by simp) ?_
        refine AllReadyH.cons rfl (fun K hK => ?_) AllReadyH.nil
        go_simp
        obtain ⟨v1w, hw1⟩ : ∃ V : World, V = World.alloc v3w (.cells #[] 28) := ⟨_, rfl⟩
        have hb1 : Below (World.heap v3w).size v3w v1w := by rw [hw1]; exact Below.al (Below.refl _ _) _
        have oA : World.ownsRow v1w W.heap.size 28 7 (.slice (some ⟨v3w.heap.size, 0, none⟩) 0 0) 0 [] := by rw [hw1]; exact owns_block _ _ 28 7 0 [] _ (by have := hBa.size; omega) (heap_last _ _) rfl (by decide)
        rw [← hw1]
        clear hw1
        replace hL := RdS.keep hb1 hL
        have hBb := Below.next hBa hb1
        clear hBa
        have hBa := hBb
        clear hBb
        refine hK.out _ _ hBa (fun hHeld2 => ?_)
        clear hK K hHeld
        have hHeld := hHeld2
        clear hHeld2
        try simp only [Act.put, List.setIfInBounds_toArray, List.set_cons_zero, List.set_cons_succ]
        refine wpAnyH_ready (rs := [3]) (by kernel_rfl) (by simp) ?_
        refine AllReadyH.cons rfl (fun K hK => ?_) AllReadyH.nil
        refine wp_app_new (.tmp 27) (.tmp 28) 23 rfl W.heap.size 28 _ 7 56 EOc _ rfl oA (.slice a1 M n1) M (rcs ocR l) rfl (HR1.out _ hBa) (rcs_one _ _) (by unfold maxLen; omega) (by omega) hBa.size ?_
        intro aA cA v2w oA2 hb2
        go_simp
        clear oA
        have oA := oA2
        clear oA2
        replace hL := RdS.keep hb2 hL
        have hBb := Below.next hBa hb2
        clear hBa
        have hBa := hBb
        clear hBb
        refine hK.out _ _ hBa (fun hHeld2 => ?_)
        clear hK K hHeld
        have hHeld := hHeld2
        clear hHeld2
        try simp only [Act.put, List.setIfInBounds_toArray, List.set_cons_zero, List.set_cons_succ]
        refine wpAnyH_ready (rs := [6]) (by kernel_rfl) (by simp) ?_
        refine AllReadyH.cons rfl (fun K hK => ?_) AllReadyH.nil
        refine wp_app (.tmp 29) (.tmp 31) 23 rfl W.heap.size 28 _ 7 56 EOc _ M (rcs ocR l) rfl oA _ 1 (rcs ocR [o]) rfl hL (rcs_one _ _) (by unfold maxLen; omega) (by omega) hBa.size ?_
        intro aB cB v4w oB hg4 hb4
        go_simp
        have hBb := hBa.trans hb4
        clear oA hL hg4
        clear hBa
        have hBa := hBb
        clear hBb
        refine hK.out _ _ hBa (fun hHeld2 => ?_)
        clear hK K hHeld
        have hHeld := hHeld2
        clear hHeld2
        try simp only [Act.put, List.setIfInBounds_toArray, List.set_cons_zero, List.set_cons_succ]
        refine wpAnyH_ready (rs := [7]) (by kernel_rfl) (by simp) ?_
        refine AllReadyH.cons rfl (fun K hK => ?_) AllReadyH.nil
        go_simp
        refine (HAL.out (.slice aB (M + 1) cB) _ hBa (by
          have e := RdS.of_owns oB (by decide)
          rw [← rcs_append] at e
          exact e)).mono ?_
        rintro e w6 ⟨rfl, hb6⟩
        have hBb := Below.next hBa hb6
        clear hBa
        have hBa := hBb
        clear hBb
        refine hK.out _ _ hBa (fun hHeld2 => ?_)
        clear hK K hHeld
        have hHeld := hHeld2
        clear hHeld2
        try simp only [Act.put, List.setIfInBounds_toArray, List.set_cons_zero, List.set_cons_succ]
        refine reg_tk (v := ?_) 8 25 rfl rfl (by kernel_rfl) (by kernel_rfl) (by kernel_rfl) (fun _ _ _ h => h) (by rfl) ?_ (by assumption) ?_
        rotate_left
        · (intro w hSw; (try dsimp only at hSw); go_simp; (try with_reducible rfl))
        simp only [List.setIfInBounds_toArray, List.set_cons_zero, List.set_cons_succ]
        refine reg_tk (v := ?_) 9 34 rfl rfl (by kernel_rfl) (by kernel_rfl) (by kernel_rfl) (fun _ _ _ h => h) (by rfl) ?_ (by assumption) ?_
        rotate_left
        · (intro w hSw; (try dsimp only at hSw); go_simp; (try with_reducible rfl))
        simp only [List.setIfInBounds_toArray, List.set_cons_zero, List.set_cons_succ]
        refine reg_tk (v := ?_) 10 35 rfl rfl (by kernel_rfl) (by kernel_rfl) (by kernel_rfl) (fun _ _ _ h => h) (by rfl) ?_ (by assumption) ?_
        rotate_left
        · (intro w hSw; (try dsimp only at hSw); go_simp; (try with_reducible rfl))
        simp only [List.setIfInBounds_toArray, List.set_cons_zero, List.set_cons_succ]
        refine reg_tk (v := ?_) 11 9 rfl rfl (by kernel_rfl) (by kernel_rfl) (by kernel_rfl) (fun _ _ _ h => h) (by rfl) ?_ (by assumption) ?_
        rotate_left
        · (intro w hSw; (try dsimp only at hSw); go_simp; (try with_reducible rfl))
        simp only [List.setIfInBounds_toArray, List.set_cons_zero, List.set_cons_succ]
        refine reg_tk (v := ?_) 12 8 rfl rfl (by kernel_rfl) (by kernel_rfl) (by kernel_rfl) (fun _ _ _ h => h) (by rfl) ?_ (by assumption) ?_
        rotate_left
        · (intro w hSw; (try dsimp only at hSw); go_simp; (try with_reducible rfl))
        simp only [List.setIfInBounds_toArray, List.set_cons_zero, List.set_cons_succ]
        refine wpAnyH_done (by kernel_rfl) ?_ _
        refine NoPanic.normal ?_
        have HFIN := Lib.hid (Below.next HB1.out hHeld)
        clear hHeld hBa oB h0 h1 h2 h3 h4 h5 h6 hw0 hb6
        have hwM : IntKind.i64.wrap ((M : Int) + 1) = (M : Int) + 1 := IntWalk.i64_in _ (by omega)
        by_cases hee : ee = 0
        · have d5 : (ee == 0) = true := by simp [hee]
          by_cases hnn : nn = (M : Int) + 1
          · have d6 : (nn == (M : Int) + 1) = true := by simp [hnn]
            have HX : Hid (X = true) := Lib.hid (by rw [HANS.out.2]; simp [hee, hnn])
            clear hee hnn
            go_wp2_with fail
            go_ret2
            have := HEND.out _ HFIN.out
            rw [HX.out, HANS.out.1] at this
            exact this
          · have d6 : (nn == (M : Int) + 1) = false := by simpa using hnn
            have HX : Hid (X = false) := Lib.hid (by rw [HANS.out.2]; simp [hnn])
            clear hee hnn
            go_wp2_with fail
            go_ret2
            have := HEND.out _ HFIN.out
            rw [HX.out, HANS.out.1] at this
            exact this
        · have d5 : (ee == 0) = false := by simpa using hee
          have HX : Hid (X = false) := Lib.hid (by rw [HANS.out.2]; simp [hee])
          clear hee
          go_wp2_with fail
          go_ret2
          have := HEND.out _ HFIN.out
          rw [HX.out, HANS.out.1] at this
          exact this
    · have d2 : (z2 != 0) = true := by simpa using hz2
      have HANS : Hid (X = false ∧ Y = z2) := Lib.hid (by
        have h1 := HXY.out
        unfold nxtV at h1
        rw [HZ2.out, if_pos hz2] at h1
        simp only [Prod.mk.injEq] at h1
        exact ⟨h1.1.symm, h1.2.symm⟩)
      clear hz2
      go_wp2_with fail
      go_ret2
      have := HEND.out _ HB1.out
      rw [HANS.out.1, HANS.out.2] at this
      exact this
  · have d1 : (z != 0) = true := by simpa using hz0
    have HANS : Hid (X = false ∧ Y = z) := Lib.hid (by
      have h1 := HXY.out
      unfold nxtV at h1
      have hf : fatE ws l = z := by unfold fatE; rw [HZ.out, if_pos hz0]
      rw [hf, if_pos hz0] at h1
      simp only [Prod.mk.injEq] at h1
      exact ⟨h1.1.symm, h1.2.symm⟩)
    clear hz0
    go_wp2_with fail
    go_ret2
    have := HEND.out _ HB1.out
    rw [HANS.out.1, HANS.out.2] at this
    exact this
end Go.Proofs.YtcjlbpndgjapiaaDoor
