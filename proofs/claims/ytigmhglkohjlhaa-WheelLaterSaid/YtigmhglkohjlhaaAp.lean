


/- Timers: what is due, collected in order. -/
import Derived.Test.YtigmhglkohjlhaaV
namespace Go.Proofs.Ytigmhglkohjlhaa
open Go.RowKit
set_option linter.unusedSimpArgs false
set_option linter.unusedVariables false
set_option maxRecDepth 100000
attribute [local go_sem] Oper.semAt_some

theorem hotfree {P : Nat} {v : Value} {k : Nat} {o : Obj} (h1 : k ≠ P) (h2 : v.ownBlock ≠ some k) (hc : o.isCells = true) : (pH P v k o && o.isCells) = true := by
  have e1 : (k == P) = false := by simpa using h1
  have e2 : (v.ownBlock == some k) = false := by simpa using h2
  simp [pH, hot, e1, e2, hc]
set_option maxHeartbeats 4000000 in
theorem appseq_any (base P b1 b2 : Nat) (u : Value) (l D1 : List Tm) (now : Int) (N : Nat) (hD1 : (pops now l).1 = D1) (hN : D1.length = N) (hNL : N ≤ 1000) (w : World) (hT : TM w base P u l)
    (hb1 : BoxN w b1 52 #[.pointer (some ⟨P, 0, none⟩)]) (hb2 : BoxN w b2 3 #[.int .i64 now]) :
    Calls Try.prog 69 #[.slice none 0 0, .func (.func 55) #[] #[.pointer (some ⟨b1, 0, none⟩), .pointer (some ⟨b2, 0, none⟩)]] w fun e w' => ∃ a c, e = .returned (.slice a N c) ∧ w'.ownsRow w.heap.size 41 5 (.slice a N c) N (rcs tmR D1) ∧ Below base w w' := by
  obtain ⟨W, hW⟩ : ∃ W : World, W = w.alloc (.cells #[.slice none 0 0] 22) := ⟨_, rfl⟩
  have hPl : P < w.heap.size := (Array.getElem?_eq_some_iff.1 hT.box).1
  have hPg := hT.ge
  have hOl : ∀ b, u.ownBlock = some b → base ≤ b ∧ b < w.heap.size := World.ownsRow.lt hT.row
  have hl1 : b1 < w.heap.size := (Array.getElem?_eq_some_iff.1 hb1).1
  have hl2 : b2 < w.heap.size := (Array.getElem?_eq_some_iff.1 hb2).1
  have hB : Below w.heap.size w W := by rw [hW]; exact (by repeat (first | assumption | exact Below.refl _ _ | apply Below.al | apply below_drewN | apply Below.drew | refine Below.next ?_ (by assumption)))
  have bR : Boxed W w.heap.size 22 (.slice none 0 0) := by rw [hW]; exact Boxed.new w _ _
  have hz : W.heap.size = w.heap.size + 1 := by rw [hW]; simp
  have HSEQ := Lib.hid (until_seq base P b1 b2 u l now 8 base N (by rw [hD1]; exact hN) W (hT.keep hB) (hb1.below hB) (hb2.below hB))
  rw [hD1] at HSEQ
  have HDN := Lib.hid hN
  have HNL := Lib.hid hNL
  have HBR := Lib.hid bR
  have HB := Lib.hid hB
  have HZ := Lib.hid hz
  clear hz hB bR hT hb1 hb2 hN hD1 hNL
  refine (callsIn_wide (n := 9)).1 ?_
  refine callsIn_of_wp_marks Try.func69 rfl trivial ?_ rfl
  refine wpIn_wide.2 ?_
  simp only [Try.ntmps69, List.size_toArray, List.length_cons, List.length_nil, Nat.reduceAdd, Nat.reduceSub, Array.replicate_succ, Array.replicate_zero, List.push_toArray, List.append_toArray, List.nil_append, List.cons_append]
  go_upto_region 1 with fail
  rw [← hW]
  clear hW
  go_wp2_with fail
  refine range_ownK (gf := 55) (lb := #[.pointer (some ⟨b1, 0, none⟩), .pointer (some ⟨b2, 0, none⟩)]) 9 41 (fun tm k Bx => (tm.setIfInBounds 7 (.agg (Tm.cs (g D1 k)).toArray)).setIfInBounds 5 (.pointer (some ⟨Bx, 0, none⟩))) (by omega) ?hg ?eg
    (cs := fun k => (Tm.cs (g D1 k)).toArray) (p := pH P u) (q := qH P u b1 b2) (Z := fun X => ∃ v', TM X base P v' (pops now l).2) (n1 := base) (n0 := base) (N := N) ?hp ?hq ?hn0 ?hn1 ?hseq ?hZ
    (fun k Wx => (∃ a c, Boxed Wx w.heap.size 22 (.slice a k c) ∧ Wx.ownsRow W.heap.size 41 5 (.slice a k c) k (rcs tmR (D1.take k))) ∧ Below base w Wx ∧ W.heap.size ≤ Wx.heap.size) ?hI ?h0 ?assign ?body ?done
  case hg => rfl
  case eg => exact enters_of Try.func55 (by kernel_rfl) rfl
  case hn0 => have := HZ.out; omega
  case hn1 => have := HZ.out; omega
  case hseq => exact HSEQ.out
  case hZ => rintro A l' o o' ⟨v', hv⟩ ho hc; exact ⟨v', hv.put ho hc o'⟩
  case h0 => exact ⟨⟨none, 0, HBR.out, rfl, .inl ⟨rfl, rfl⟩⟩, HB.out.mono (by omega), Nat.le_refl _⟩
  case hp => intro k o h; simp [pH, h]
  case hq => intro k o h; simp [qH, h]
  case hI =>
    rintro k A B ⟨⟨a, c, hb, ho⟩, hw, hs⟩ hbel hkp
    refine ⟨⟨a, c, hkp w.heap.size _ hb (hotfree (by omega) (fun h => by have := (hOl _ h).2; omega) rfl), own_keepK ho hkp (fun b o hb hc => ?_)⟩, hw.trans (hbel.mono (by omega)), Nat.le_trans hs hbel.size⟩
    have h5 := (World.ownsRow.lt ho b hb).1
    have := HZ.out
    exact hotfree (by omega) (fun h => by have := (hOl _ h).2; omega) hc
  case assign =>
    intro l k W K hI hz hK
    obtain ⟨x, hx⟩ : ∃ x, g D1 k = x := ⟨_, rfl⟩
    rw [hx] at hK ⊢
    clear hx hI
    simp only [Tm.cs, List.setIfInBounds_toArray, List.set_cons_zero, List.set_cons_succ] at hK ⊢
    gi_wp2
    exact hK
  case body =>
    obtain ⟨j0, hj, hjz, hjs, hjb⟩ := info_parts ETm.hi
    rintro l' k Bx Wb ⟨⟨a, c, bL, hown⟩, hBW, hSW⟩ hzW hBx bT hkN
    obtain ⟨t, ht⟩ : ∃ t, g D1 k = t := ⟨_, rfl⟩
    have HNX : Hid (D1.take (k + 1) = D1.take k ++ [t]) := by unfold Hid; rw [← ht]; exact take_snoc (by rw [HDN.out]; exact hkN)
    rw [ht] at bT ⊢
    clear ht
    simp only [Tm.cs, List.setIfInBounds_toArray, List.set_cons_zero, List.set_cons_succ] at bT ⊢
    have c0 : Wb.cell? ⟨Bx, 0, none⟩ = some (.int .i64 t.tk) := (bT.cell 0).trans rfl
    have c1 : Wb.cell? ⟨Bx, 1, none⟩ = some (.int .i64 t.kd) := (bT.cell 1).trans rfl
    have c2 : Wb.cell? ⟨Bx, 2, none⟩ = some (.int .i64 t.nd) := (bT.cell 2).trans rfl
    have c3 : Wb.cell? ⟨Bx, 3, none⟩ = some (.int .u64 t.sq) := (bT.cell 3).trans rfl
    have c4 : Wb.cell? ⟨Bx, 4, none⟩ = some (.int .i64 t.of) := (bT.cell 4).trans rfl
    have bcell := bL.cell
    have HBL := Lib.hid bL
    have HOWN := Lib.hid hown
    have HOWN2 := Lib.hid (hown.alloc (.cells #[.int .i64 t.tk, .int .i64 t.kd, .int .i64 t.nd, .int .u64 t.sq, .int .i64 t.of] 41))
    have hkl : k < 1000 := by have := HNL.out; omega
    clear hown bL bT
    gi_wp2_with (gi_at_builtin; refine wpListIn_append_own _ rfl (.tmp 8) (.tmp 10) 22 rfl W.heap.size 41 j0 (.agg #[.int .i64 0, .int .i64 0, .int .i64 0, .int .u64 0, .int .i64 0]) 5 40 Try.underlying22 hj hjz hjs hjb rfl (by decide) _ k (rcs tmR (D1.take k)) rfl HOWN2.out ⟨Wb.heap.size, 0, none⟩ 1 1 (Tm.cs t) rfl rfl ?_ ?_ ?_ ?_ ?_ ?_)
    · intro j u hj
      rw [Addr.add_mid]
      match j, hj with
      | 0, hj => simp [Tm.cs] at hj; subst hj; simp [go_sem]
      | 1, hj => simp [Tm.cs] at hj; subst hj; simp [go_sem]
      | 2, hj => simp [Tm.cs] at hj; subst hj; simp [go_sem]
      | 3, hj => simp [Tm.cs] at hj; subst hj; simp [go_sem]
      | 4, hj => simp [Tm.cs] at hj; subst hj; simp [go_sem]
      | j + 5, hj => simp [Tm.cs] at hj
    · exact Tm.cs_one _
    · unfold maxLen; omega
    · omega
    · simp; omega
    intro v' w3 hown' hgrow _
    obtain ⟨a3, c3', rfl⟩ := owns_form hown'
    have hz2 := HZ.out
    have HGR := Lib.hid hgrow
    have HOW := Lib.hid hown'
    obtain ⟨hv1, hv2, _, hk2, hb2⟩ := HBL.out.appended (n₀ := base) (by decide) (owns_mono HOWN.out (by omega)) (by omega) (by omega) (owns_mono hown' (by omega)) hgrow
    have hr2 := HOW.out.kept (grownBy_setCell' w3 w.heap.size (.slice a3 (k + 1) c3')) (.inr (hv1.not_row (by decide) HOW.out).symm)
    have hq : keepsK (qH P u b1 b2) Wb (w3.setCell ⟨w.heap.size, 0, none⟩ (.slice a3 (k + 1) c3')) := by
      have g1 : keepsK (qH P u b1 b2) Wb (Wb.alloc (.cells #[.int .i64 t.tk, .int .i64 t.kd, .int .i64 t.nd, .int .u64 t.sq, .int .i64 t.of] 41)) := keepsK.below ((Below.refl _ _).alloc (Nat.le_refl _) _)
      have g2 := keepsK.grown (p := qH P u b1 b2) HGR.out (fun r e o ho => by
        have h5 := (World.ownsRow.lt HOWN.out r e).1
        exact qH_no (by omega) (fun h6 => by have := (hOl r h6).2; omega) (by omega) (by omega) o)
      refine (g1.trans g2).trans (keepsK.set hv1 (qH_no (by omega) (fun h6 => by have := (hOl _ h6).2; omega) (by omega) (by omega) _) _ rfl _)
    have hc1 := hv1.cell
    have hf1 := hv1.frozen
    have HV2 := Lib.hid hv2
    have HR2 := Lib.hid hr2
    have HK2 := Lib.hid hk2
    have HBB2 := Lib.hid hb2
    have HQ := Lib.hid hq
    clear hgrow hown' bcell c0 c1 c2 c3 c4 hv1 hv2 hk2 hb2 hr2 hq hz2
    gi_wp2
    exact ⟨HK2.out.from _, ⟨HBB2.out, HQ.out⟩, ⟨⟨a3, c3', HV2.out, by rw [HNX.out, rcs_append]; exact HR2.out⟩, hBW.trans HBB2.out, Nat.le_trans hSW HBB2.out.size⟩⟩
  case done =>
    rintro D Wd hD ⟨⟨a, c, bL, hown⟩, hBW, hSW⟩ _ hK
    have cL := bL.cell
    have HO := Lib.hid (ownsRow_putObj hown (.deferred none) hK rfl)
    have HF := Lib.hid (hBW.trans (below_putK2 (l := D) (by have := HZ.out; omega) (.deferred none)))
    clear hown bL hBW
    go_wp2_with fail
    refine ⟨by simp, .inl ⟨_, _, rfl, run_takeDeferred hK, ?_⟩⟩
    refine ⟨.slice a N c, by simp [results, Try.results69, go_sem], a, c, rfl, ?_, HF.out⟩
    have h5 := HO.out
    rw [show D1.take N = D1 from List.take_of_length_le (by rw [HDN.out]; exact Nat.le_refl _)] at h5
    exact owns_mono h5 (by have := HZ.out; omega)
theorem collect_any (base P b1 b2 : Nat) (u : Value) (l D1 : List Tm) (now : Int) (N : Nat) (hD1 : (pops now l).1 = D1) (hN : D1.length = N) (hNL : N ≤ 1000) (w : World) (hT : TM w base P u l)
    (hb1 : BoxN w b1 52 #[.pointer (some ⟨P, 0, none⟩)]) (hb2 : BoxN w b2 3 #[.int .i64 now]) :
    Calls Try.prog 63 #[.func (.func 55) #[] #[.pointer (some ⟨b1, 0, none⟩), .pointer (some ⟨b2, 0, none⟩)]] w fun e w' => ∃ a c, e = .returned (.slice a N c) ∧ w'.ownsRow w.heap.size 41 5 (.slice a N c) N (rcs tmR D1) ∧ Below base w w' := by
  have HT := Lib.hid hT
  have HB1 := Lib.hid hb1
  have HB2 := Lib.hid hb2
  clear hT hb1 hb2
  go_enter Try.func63, Try.ntmps63
  go_wp2_with fail
  refine (appseq_any base P b1 b2 u l D1 now N hD1 hN hNL _ HT.out HB1.out HB2.out).mono ?_
  rintro e w1 ⟨a, c, rfl, ho, hb⟩
  have HO := Lib.hid ho
  clear ho
  go_wp2_with fail
  go_ret
  exact ⟨a, c, rfl, HO.out, hb⟩
end Go.Proofs.Ytigmhglkohjlhaa
