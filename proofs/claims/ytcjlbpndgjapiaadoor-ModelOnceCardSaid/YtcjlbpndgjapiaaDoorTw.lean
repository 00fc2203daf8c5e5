




/- trace.Of; an ID in a list, in the law. -/
import Derived.Test.YtcjlbpndgjapiaaDoorLw
namespace Go.Proofs.YtcjlbpndgjapiaaDoor
open Go.RowKit
set_option linter.unusedSimpArgs false
set_option linter.unusedVariables false
set_option maxRecDepth 100000

/-- is an outcome of a bundle? (Of$1) -/
theorem of1_any (o : Oc) (b : Nat) (i : Idn) (w : World) (m0 : w.cell? ⟨b, 0, none⟩ = some (.int .i64 i.nd)) (m1 : w.cell? ⟨b, 1, none⟩ = some (.int .u64 i.sq)) (m2 : w.cell? ⟨b, 2, none⟩ = some (.int .i64 i.off)) :
    Calls Tryd.prog 60 #[o.v, .pointer (some ⟨b, 0, none⟩)] w fun e w' => e = .returned (.bool (decide (o.id = i))) ∧ Below w.heap.size w w' := by
  obtain ⟨W, hW⟩ : ∃ W : World, W = w.alloc (.cells #[.int .i64 o.tk, .int .i64 o.nd, .int .i64 o.kd, .int .i64 o.id.nd, .int .u64 o.id.sq, .int .i64 o.id.off, .int .i64 o.ot] 28) := ⟨_, rfl⟩
  have hB : Below w.heap.size w W := by rw [hW]; exact (by repeat (first | assumption | exact Below.refl _ _ | apply Below.al | apply below_drewN | apply Below.drew | refine Below.next ?_ (by assumption)))
  have bI : BoxN W w.heap.size 28 #[.int .i64 o.tk, .int .i64 o.nd, .int .i64 o.kd, .int .i64 o.id.nd, .int .u64 o.id.sq, .int .i64 o.id.off, .int .i64 o.ot] := by rw [hW]; exact BoxN.new w _ _
  have h0 : W.cell? ⟨w.heap.size, 0, none⟩ = some (.int .i64 o.tk) := bI.cell 0
  have h1 : W.cell? ⟨w.heap.size, 1, none⟩ = some (.int .i64 o.nd) := bI.cell 1
  have h2 : W.cell? ⟨w.heap.size, 2, none⟩ = some (.int .i64 o.kd) := bI.cell 2
  have h3 : W.cell? ⟨w.heap.size, 3, none⟩ = some (.int .i64 o.id.nd) := bI.cell 3
  have h4 : W.cell? ⟨w.heap.size, 4, none⟩ = some (.int .u64 o.id.sq) := bI.cell 4
  have h5 : W.cell? ⟨w.heap.size, 5, none⟩ = some (.int .i64 o.id.off) := bI.cell 5
  have h6 : W.cell? ⟨w.heap.size, 6, none⟩ = some (.int .i64 o.ot) := bI.cell 6
  clear bI
  have n0 := cell_later hB m0
  have n1 := cell_later hB m1
  have n2 := cell_later hB m2
  have HB := Lib.hid hB
  obtain ⟨Q, hQ⟩ : ∃ Q, w.heap.size = Q := ⟨_, rfl⟩
  have HQ := Lib.hid hQ
  rw [hQ] at h3 h4 h5
  clear hB hQ h0 h1 h2 h6 m0 m1 m2
  obtain ⟨r, hr⟩ : ∃ r, decide (o.id = i) = r := ⟨_, rfl⟩
  rw [hr]
  go_enter Tryd.func60, Tryd.ntmps60
  go_upto_region 1 with fail
  rw [← hW, HQ.out]
  clear hW
  by_cases hid : o.id = i
  · obtain ⟨e1, e2, e3⟩ := id_eq hid
    obtain rfl : r = true := by rw [← hr]; exact yb hid
    clear hid hr
    go_wp2_with fail
    try (go_quiet (fail); go_wp2_with fail)
    go_ret
    exact ⟨rfl, by first | exact HB.out | exact below_drewN HB.out _⟩
  · have hne := id_ne hid
    obtain rfl : r = false := by rw [← hr]; exact nb hid
    clear hid hr
    rcases hne with e1 | ⟨e1, e2⟩ | ⟨e1, e2, e3⟩
    all_goals
      go_wp2_with fail
      try (go_quiet (fail); go_wp2_with fail)
      go_ret
      exact ⟨rfl, by first | exact HB.out | exact below_drewN HB.out _⟩
theorem fl_take_yes {l : List Oc} {i : Idn} {k : Nat} (hk : k < l.length) (h : (gx l k).id = i) : fl i (l.take (k + 1)) = fl i (l.take k) ++ [gx l k] := by
  have e : gx l k = l[k] := by unfold gx; rw [List.getD_eq_getElem?_getD, List.getElem?_eq_getElem hk]; rfl
  rw [List.take_succ_eq_append_getElem hk, ← e]
  unfold fl
  rw [List.filter_append, List.filter_cons, if_pos (decide_eq_true h)]
  rfl
theorem fl_take_no {l : List Oc} {i : Idn} {k : Nat} (hk : k < l.length) (h : (gx l k).id ≠ i) : fl i (l.take (k + 1)) = fl i (l.take k) := by
  have e : gx l k = l[k] := by unfold gx; rw [List.getD_eq_getElem?_getD, List.getElem?_eq_getElem hk]; rfl
  rw [List.take_succ_eq_append_getElem hk, ← e]
  unfold fl
  rw [List.filter_append, List.filter_cons, if_neg (by simpa using h)]
  simp
theorem fl_take_len {l : List Oc} {i : Idn} (k : Nat) : (fl i (l.take k)).length ≤ k := by
  unfold fl
  exact Nat.le_trans (List.length_filter_le ..) (by rw [List.length_take]; omega)
set_option maxHeartbeats 4000000 in
theorem filter_any (v : Value) (l : List Oc) (b : Nat) (i : Idn) (hl : l.length ≤ 100000) (w : World) (h : RdO w v l) (m0 : w.cell? ⟨b, 0, none⟩ = some (.int .i64 i.nd)) (m1 : w.cell? ⟨b, 1, none⟩ = some (.int .u64 i.sq)) (m2 : w.cell? ⟨b, 2, none⟩ = some (.int .i64 i.off)) :
    Calls Tryd.prog 59 #[v, .func (.func 60) #[] #[.pointer (some ⟨b, 0, none⟩)]] w fun e w' => ∃ a c, e = .returned (.slice a (fl i l).length c) ∧ w'.ownsRow w.heap.size 28 7 (.slice a (fl i l).length c) (fl i l).length (rcs ocR (fl i l)) ∧ Below w.heap.size w w' := by
  obtain ⟨a0, n0, rfl⟩ := h.form
  obtain ⟨N, hN⟩ : ∃ N, l.length = N := ⟨_, rfl⟩
  rw [hN] at h hl ⊢
  have HN := Lib.hid hN
  have HR := Lib.hid h
  have HNL := Lib.hid hl
  have HFN : Hid (fl i (l.take N) = fl i l) := Lib.hid (by rw [List.take_of_length_le (by omega)])
  have HM := Lib.hid (And.intro m0 (And.intro m1 m2))
  clear hN h hl m0 m1 m2
  go_enter Tryd.func59, Tryd.ntmps59
  go_wp2_with fail
  go_loopw [5, 10] (fun sv iv wr => ∃ (k L : Nat) (a : Option Addr) (cp : Nat), k ≤ N ∧ iv = .int .i64 k ∧ sv = .slice a L cp ∧ (fl i (l.take k)).length = L ∧ wr.ownsRow w.heap.size 28 7 (.slice a L cp) L (rcs ocR (fl i (l.take k))) ∧ Below w.heap.size w wr) (fun _ iv _ => N - (intOf iv).toNat)
  case atStart => exact ⟨0, 0, none, 0, Nat.zero_le _, rfl, rfl, rfl, ⟨rfl, .inl ⟨rfl, rfl⟩⟩, Below.refl _ _⟩
  case round =>
    obtain ⟨k, L, a, cp, hk, rfl, rfl, hL, hOW, hB⟩ := hrel
    have HOW := Lib.hid hOW
    have HB := Lib.hid hB
    have HL := Lib.hid hL
    clear hOW hB hL
    by_cases hlt : k < N
    · have d2 : decide ((k : Int) < (N : Int)) = true := yb (by omega)
      obtain ⟨b1, o1, rfl, hc1, g0, g1, g2, g3, g4, g5, g6⟩ := RdO.at (HR.out.keep HB.out) HN.out k hlt
      have HYES := fun h => Lib.hid (fl_take_yes (i := i) (show k < l.length by have := HN.out; omega) h)
      have HNO := fun h => Lib.hid (fl_take_no (i := i) (show k < l.length by have := HN.out; omega) h)
      have HLK : Hid (L ≤ 100000) := Lib.hid (by have := fl_take_len (l := l) (i := i) k; have := HL.out; have := HNL.out; omega)
      obtain ⟨y, HY⟩ : ∃ y, Hid (gx l k = y) := ⟨_, Lib.hid rfl⟩
      rw [HY.out] at g0 g1 g2 g3 g4 g5 g6 HYES HNO
      have i1 : (0 : Int) ≤ (k : Int) := by omega
      have i2 : (k : Int) < (N : Int) := by omega
      have hwk : IntKind.i64.wrap (k : Int) = (k : Int) := IntWalk.i64_in _ (by have := HNL.out; omega)
      have hwk1 : IntKind.i64.wrap ((k : Int) + 1) = (k : Int) + 1 := IntWalk.i64_in _ (by have := HNL.out; omega)
      have HK := Lib.hid hlt
      clear hlt hk
      go_upto_region 5 with fail
      refine wp_name ?_
      intro W3 hW3
      have o9 : BoxN W3 wr.heap.size 28 #[.int .i64 y.tk, .int .i64 y.nd, .int .i64 y.kd, .int .i64 y.id.nd, .int .u64 y.id.sq, .int .i64 y.id.off, .int .i64 y.ot] := by rw [hW3]; exact BoxN.new _ _ _
      have hb3 : Below wr.heap.size wr W3 := by rw [hW3]; exact Below.al (Below.refl _ _) _
      obtain ⟨q, hq⟩ : ∃ q, wr.heap.size = q := ⟨_, rfl⟩
      rw [hq] at o9 ⊢
      have c0 : W3.cell? ⟨q, 0, none⟩ = some (.int .i64 y.tk) := o9.cell 0
      have c1 : W3.cell? ⟨q, 1, none⟩ = some (.int .i64 y.nd) := o9.cell 1
      have c2 : W3.cell? ⟨q, 2, none⟩ = some (.int .i64 y.kd) := o9.cell 2
      have c3 : W3.cell? ⟨q, 3, none⟩ = some (.int .i64 y.id.nd) := o9.cell 3
      have c4 : W3.cell? ⟨q, 4, none⟩ = some (.int .u64 y.id.sq) := o9.cell 4
      have c5 : W3.cell? ⟨q, 5, none⟩ = some (.int .i64 y.id.off) := o9.cell 5
      have c6 : W3.cell? ⟨q, 6, none⟩ = some (.int .i64 y.ot) := o9.cell 6
      replace HOW := Lib.hid (own_keepB hb3 HOW.out)
      replace HB := Lib.hid (HB.out.trans (hb3.mono HB.out.size))
      have HP := Lib.hid (of1_any y b i W3 (cell_later HB.out HM.out.1) (cell_later HB.out HM.out.2.1) (cell_later HB.out HM.out.2.2))
      clear hW3 hq o9 hb3 g0 g1 g2 g3 g4 g5 g6
      by_cases hs : y.id = i
      · rw [yb hs] at HP
        have HE := HYES hs
        clear HYES HNO hs
        go_wp2_with fail
        refine HP.out.mono ?_
        rintro e w4 ⟨rfl, hb⟩
        have c0 := cell_later hb c0
        have c1 := cell_later hb c1
        have c2 := cell_later hb c2
        have c3 := cell_later hb c3
        have c4 := cell_later hb c4
        have c5 := cell_later hb c5
        have c6 := cell_later hb c6
        replace HOW := Lib.hid (own_keepB hb HOW.out)
        replace HB := Lib.hid (HB.out.trans (hb.mono HB.out.size))
        have HRD : Hid (∀ A T, A = (rcs ocR [y]).toArray → RdS (w4.alloc (.cells A T)) 7 (.slice (some ⟨w4.heap.size, 0, none⟩) 1 1) 1 (rcs ocR [y])) := Lib.hid fun A T hA => rdl_new ocR w4 T [y] A hA 1 rfl (by decide)
        clear hb HP
        go_wp2_with (first | (at_builtin; refine wpList_app rfl (.tmp 17) (.tmp 19) 23 rfl w.heap.size 28 _ 7 56 EOc _ _ _ rfl (HOW.out.alloc _) _ 1 (rcs ocR [y]) rfl (HRD.out _ _ rfl) (rcs_one _ _) ?c1 ?c2 ?c3 ?_) | fail)
        case c1 => have := HLK.out; unfold maxLen; omega
        case c2 => have := HLK.out; omega
        case c3 => have := HB.out.size; simp; omega
        intro a3 c3' w5 hown3 hg3 hb3
        have HOW3 : Hid (w5.ownsRow w.heap.size 28 7 (.slice a3 (L + 1) c3') (L + 1) (rcs ocR (fl i (l.take (k + 1))))) := Lib.hid (by rw [HE.out, rcs_append]; with_reducible exact hown3)
        have HB5 : Hid (Below w.heap.size w w5) := Lib.hid ((Below.al HB.out _).trans hb3)
        clear hown3 hg3 hb3 HOW HB HRD c0 c1 c2 c3 c4 c5 c6
        go_wp2_with fail
        go_roundw
        case rel => exact ⟨k + 1, L + 1, a3, c3', by have := HK.out; omega, by go_num, rfl, by rw [HE.out, List.length_append, HL.out]; rfl, HOW3.out, HB5.out⟩
        case measure => simp [intOf]; have := HK.out; omega
      · rw [nb hs] at HP
        have HE := HNO hs
        clear HYES HNO hs
        go_wp2_with fail
        refine HP.out.mono ?_
        rintro e w4 ⟨rfl, hb⟩
        replace HOW := Lib.hid (own_keepB hb HOW.out)
        replace HB := Lib.hid (HB.out.trans (hb.mono HB.out.size))
        clear hb HP c0 c1 c2 c3 c4 c5 c6
        go_wp2_with fail
        go_roundw
        case rel => exact ⟨k + 1, L, a, cp, by have := HK.out; omega, by go_num, rfl, by rw [HE.out, HL.out], by rw [HE.out]; exact HOW.out, HB.out⟩
        case measure => simp [intOf]; have := HK.out; omega
    · obtain rfl : k = N := by omega
      have d2 : decide ((k : Int) < (k : Int)) = false := nb (by omega)
      rw [HFN.out] at HL HOW
      clear hlt hk
      go_wp2_with fail
      go_ret
      exact ⟨a, cp, by rw [HL.out]; rfl, by rw [HL.out]; exact HOW.out, HB.out⟩
/-- trace.Of, where the trace and the ID are valid -/
theorem of_any (v : Value) (l : List Oc) (i : Idn) (hl : (chkT l).1 = 0) (hi : chkI i = 0) (w : World) (hf : FC w) (h : RdO w v l) :
    Calls Tryd.prog 38 #[v, i.v] w fun e w' => ∃ a c, e = .returned (.tuple #[.slice a (fl i l).length c, .int .i64 0]) ∧ RdO w' (.slice a (fl i l).length c) (fl i l) ∧ Below w.heap.size w w' := by
  obtain ⟨W, hW⟩ : ∃ W : World, W = w.alloc (.cells #[.int .i64 i.nd, .int .u64 i.sq, .int .i64 i.off] 26) := ⟨_, rfl⟩
  have hB : Below w.heap.size w W := by rw [hW]; exact (by repeat (first | assumption | exact Below.refl _ _ | apply Below.al | apply below_drewN | apply Below.drew | refine Below.next ?_ (by assumption)))
  have bI : BoxN W w.heap.size 26 #[.int .i64 i.nd, .int .u64 i.sq, .int .i64 i.off] := by rw [hW]; exact BoxN.new w _ _
  have h0 : W.cell? ⟨w.heap.size, 0, none⟩ = some (.int .i64 i.nd) := bI.cell 0
  have h1 : W.cell? ⟨w.heap.size, 1, none⟩ = some (.int .u64 i.sq) := bI.cell 1
  have h2 : W.cell? ⟨w.heap.size, 2, none⟩ = some (.int .i64 i.off) := bI.cell 2
  clear bI
  have HV := Lib.hid (valid_any v l W (hf.keep hB) (h.keep hB))
  rw [hl] at HV
  have HL := Lib.hid (chk_trace hl).1
  have HR := Lib.hid (h.keep hB)
  have HB := Lib.hid hB
  obtain ⟨Q, hQ⟩ : ∃ Q, w.heap.size = Q := ⟨_, rfl⟩
  have HQ := Lib.hid hQ
  have HI := Lib.hid hi
  rw [hQ] at h0 h1 h2
  clear hB h hf hQ hl hi
  go_enter Tryd.func38, Tryd.ntmps38
  go_upto_region 1 with fail
  rw [← hW, HQ.out]
  clear hW
  go_wp2_with fail
  refine HV.out.mono ?_
  rintro e w1 ⟨rfl, hb⟩
  have k0 := cell_later hb h0
  have k1 := cell_later hb h1
  have k2 := cell_later hb h2
  replace HR := Lib.hid (HR.out.keep hb)
  replace HB := Lib.hid (Below.next HB.out hb)
  clear hb h0 h1 h2 HV
  have HC := Lib.hid (checkid_any i w1)
  rw [HI.out] at HC
  go_wp2_with fail
  refine HC.out.mono ?_
  rintro e w2 ⟨rfl, hb⟩
  have k0 := cell_later hb k0
  have k1 := cell_later hb k1
  have k2 := cell_later hb k2
  replace HR := Lib.hid (HR.out.keep hb)
  replace HB := Lib.hid (Below.next HB.out hb)
  have HF := Lib.hid (filter_any v l Q i (by have := HL.out; omega) w2 HR.out k0 k1 k2)
  clear hb HC k0 k1 k2
  go_wp2_with fail
  refine HF.out.mono ?_
  rintro e w3 ⟨a, c, rfl, ho, hb⟩
  have HO := Lib.hid (oc_own ho rfl)
  replace HB := Lib.hid (Below.next HB.out hb)
  obtain ⟨n, hn⟩ : ∃ n, (fl i l).length = n := ⟨_, rfl⟩
  have HNN := Lib.hid hn
  rw [hn] at HO ⊢
  clear ho hb HF hn
  go_wp2_with fail
  go_ret2
  exact ⟨a, c, by rw [HNN.out]; rfl, by rw [HNN.out]; exact HO.out, HB.out⟩
/-- an ID is in a list -/
theorem in_any (v : Value) (l : List Idn) (i : Idn) (w : World) (h : RdD w v l) : Calls Tryd.prog 37 #[v, i.v] w fun e w' => e = .returned (.bool (decide (i ∈ l))) ∧ Below w.heap.size w w' := by
  obtain ⟨W, hW⟩ : ∃ W : World, W = w.alloc (.cells #[.int .i64 i.nd, .int .u64 i.sq, .int .i64 i.off] 26) := ⟨_, rfl⟩
  have hB : Below w.heap.size w W := by rw [hW]; exact (by repeat (first | assumption | exact Below.refl _ _ | apply Below.al | apply below_drewN | apply Below.drew | refine Below.next ?_ (by assumption)))
  have bI : BoxN W w.heap.size 26 #[.int .i64 i.nd, .int .u64 i.sq, .int .i64 i.off] := by rw [hW]; exact BoxN.new w _ _
  have h0 : W.cell? ⟨w.heap.size, 0, none⟩ = some (.int .i64 i.nd) := bI.cell 0
  have h1 : W.cell? ⟨w.heap.size, 1, none⟩ = some (.int .u64 i.sq) := bI.cell 1
  have h2 : W.cell? ⟨w.heap.size, 2, none⟩ = some (.int .i64 i.off) := bI.cell 2
  clear bI
  obtain ⟨a0, n0, rfl⟩ := h.form
  have hmx := h.2.1
  unfold maxLen at hmx
  obtain ⟨N, hN⟩ : ∃ N, l.length = N := ⟨_, rfl⟩
  have HR := Lib.hid (h.keep hB)
  rw [hN] at HR hmx ⊢
  have HN := Lib.hid hN
  have HB := Lib.hid hB
  obtain ⟨Q, hQ⟩ : ∃ Q, w.heap.size = Q := ⟨_, rfl⟩
  have HQ := Lib.hid hQ
  rw [hQ] at h0 h1 h2
  have HM := Lib.hid (And.intro h0 (And.intro h1 h2))
  clear hB h hQ hN h0 h1 h2
  obtain ⟨r, hr⟩ : ∃ r, decide (i ∈ l) = r := ⟨_, rfl⟩
  rw [hr]
  have HRR := Lib.hid hr
  clear hr
  go_enter Tryd.func37, Tryd.ntmps37
  go_upto_region 1 with fail
  rw [← hW, HQ.out]
  clear hW
  go_wp2_with fail
  go_loopw [5] (fun iv wr => ∃ k : Nat, k ≤ N ∧ iv = .int .i64 k ∧ Below W.heap.size W wr ∧ Hid (∀ j, j < k → gd l j ≠ i)) (fun iv _ => N - (intOf iv).toNat)
  case atStart => exact ⟨0, Nat.zero_le _, rfl, Below.refl _ _, Lib.hid fun j hj => absurd hj (Nat.not_lt_zero _)⟩
  case round =>
    obtain ⟨k, hk, rfl, hB, HZ⟩ := hrel
    have k0 := cell_later hB HM.out.1
    have k1 := cell_later hB HM.out.2.1
    have k2 := cell_later hB HM.out.2.2
    by_cases hlt : k < N
    · have d2 : decide ((k : Int) < (N : Int)) = true := yb (by omega)
      obtain ⟨b1, o1, rfl, hc1, g0, g1, g2⟩ := RdD.at (HR.out.keep hB) HN.out k hlt
      have hmem : gd l k ∈ l := getD_mem (by have := HN.out; omega)
      obtain ⟨y, HY⟩ : ∃ y, Hid (gd l k = y) := ⟨_, Lib.hid rfl⟩
      rw [HY.out] at g0 g1 g2 hmem
      have HMM := Lib.hid hmem
      have i1 : (0 : Int) ≤ (k : Int) := by omega
      have i2 : (k : Int) < (N : Int) := by omega
      have hwk : IntKind.i64.wrap (k : Int) = (k : Int) := IntWalk.i64_in _ (by omega)
      have hwk1 : IntKind.i64.wrap ((k : Int) + 1) = (k : Int) + 1 := IntWalk.i64_in _ (by omega)
      clear hmem
      by_cases hid : y = i
      · obtain ⟨e1, e2, e3⟩ := id_eq hid
        obtain rfl : r = true := by rw [← HRR.out]; exact yb (by rw [← hid]; exact HMM.out)
        clear hid
        go_wp2_with fail
        go_quiet (fail)
        go_wp2_with fail
        go_ret
        exact ⟨rfl, Below.next HB.out (below_drewN hB _)⟩
      · have hne := id_ne hid
        have HNE := Lib.hid hid
        clear hid
        rcases hne with e1 | ⟨e1, e2⟩ | ⟨e1, e2, e3⟩
        all_goals
          go_wp2_with fail
          go_quiet (fail)
          go_wp2_with fail
          go_roundw
          case rel => exact ⟨k + 1, by omega, by go_num, below_drewN hB _, Lib.hid fun j hj => by
            rcases Nat.lt_succ_iff_lt_or_eq.1 hj with hj | rfl
            · exact HZ.out j hj
            · rw [HY.out]; exact HNE.out⟩
          case measure => simp [intOf]; omega
    · obtain rfl : k = N := by omega
      have d2 : decide ((k : Int) < (k : Int)) = false := nb (by omega)
      obtain rfl : r = false := by
        rw [← HRR.out]
        refine nb (fun hm => ?_)
        obtain ⟨j, hj, e⟩ := List.getElem_of_mem hm
        refine HZ.out j (by have := HN.out; omega) ?_
        show l.getD j i0 = i
        rw [List.getD_eq_getElem?_getD, List.getElem?_eq_getElem hj, ← e]; rfl
      clear k0 k1 k2
      go_wp2_with fail
      go_ret
      exact ⟨rfl, Below.next HB.out hB⟩
end Go.Proofs.YtcjlbpndgjapiaaDoor
