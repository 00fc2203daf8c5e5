


/- Timers: those that are due lie in order already, and sorting them leaves them so; Sorted. -/
import Derived.Test.YtigmhglkohjlhaaCo
import Derived.Test.YtigmhglkohjlhaaSl
namespace Go.Proofs.Ytigmhglkohjlhaa
open Go.Shelf Go.RowKit Go.Lib Go.Sort
set_option linter.unusedSimpArgs false
set_option linter.unusedVariables false
set_option maxRecDepth 100000

instance : Inhabited Tm := ⟨z0⟩
theorem ltOf_T (x y : Tm) : ltOf cmpT x y = decide (ltT x y) := by unfold ltOf; exact decide_eq_decide.2 (cmpT_lt x y)
theorem swoT : SWO (ltOf cmpT) where
  irrefl x := by rw [ltOf_T]; exact nb (lt_irr x)
  trans x y z h1 h2 := by
    rw [ltOf_T, decide_eq_true_eq] at *
    exact lt_tr h1 h2
  ntrans x y z h1 h2 := by
    rw [ltOf_T, decide_eq_false_iff_not] at *
    exact fun h => by
      by_cases h3 : ltT y z
      · exact h2 h3
      · exact h1 (lt_le h h3)
theorem totT (x y : Tm) (h1 : ltOf cmpT x y = false) (h2 : ltOf cmpT y x = false) : x = y := by
  rw [ltOf_T, decide_eq_false_iff_not] at *
  exact lt_tri h1 h2
theorem cmpLaysT (blk off size : Nat) (w : World) : CmpLays Try.prog 37 #[] Tm.cs 5 cmpT blk off size w :=
  fun _ _ _ _ x y => compare_gr x y _
theorem merge_T {l : List Tm} (h : l.Pairwise (fun a b => ¬ ltT b a)) : (l.mergeSort fun x y => !(ltOf cmpT) y x) = l :=
  List.mergeSort_of_pairwise (h.imp fun {a b} hab => by rw [ltOf_T]; simp only [Bool.not_eq_true', decide_eq_false_iff_not]; exact hab)
theorem holdsK_own {w : World} {base n c q : Nat} {l : List Tm} (h : w.ownsRow base 41 5 (.slice (some ⟨q, 0, none⟩) n c) n (rcs tmR l)) (hl : l.length = n) : HoldsK Tm.cs 5 w q 0 l.toArray := by
  intro j hj
  rw [size_flatK, List.size_toArray, hl] at hj
  rw [get_flatK _ _ _ _ (by rw [List.size_toArray, hl]; exact hj), Nat.zero_add]
  refine ⟨?_, h.frozenAt j⟩
  have hdm : j / 5 * 5 + j % 5 = j := by omega
  have e := rcs_get tmR l (j / 5) (j % 5) (by omega) (by show j % 5 < 5; omega)
  rw [h.cellAt j hj]
  have e2 : (rcs tmR l)[j]? = (Tm.cs (g l (j / 5)))[j % 5]? := by
    have e3 : j / 5 * tmR.size + j % 5 = j := hdm
    rw [e3] at e
    exact e
  rw [e2]
  have hd : l.toArray[j / 5]! = g l (j / 5) := by
    have hlt : j / 5 < l.length := by omega
    simp [g, hlt]
  rw [hd]
  have hlen : j % 5 < (Tm.cs (g l (j / 5))).length := by show j % 5 < 5; omega
  rw [List.getElem?_eq_getElem hlen, getElem!_pos (Tm.cs (g l (j / 5))) (j % 5) hlen]
  rfl
theorem sort_any (base : Nat) (a : Option Addr) (N c : Nat) (l : List Tm) (hN : l.length = N) (hNL : N ≤ 1000) (hs : l.Pairwise (fun a b => ¬ ltT b a)) (w : World) (h : w.ownsRow base 41 5 (.slice a N c) N (rcs tmR l)) :
    Calls Try.prog 64 #[.slice a N c, .func (.func 37) #[] #[]] w fun e w' => e = .returned (.tuple #[]) ∧ Below w.heap.size w w' := by
  by_cases h0 : N = 0
  · subst h0
    have hcon := AnyF.slices_SortFunc_none { Try.laysF06 with } a c (.func (.func 37) #[] #[]) w
    change Calls Try.prog 64 _ _ _ at hcon
    exact hcon.mono fun e w' ⟨he, hw⟩ => ⟨he, by rw [hw]; exact Below.refl _ _⟩
  · obtain ⟨q, rfl, hq1, hq2⟩ := OwM.addr h (by omega)
    have hH := holdsK_own h hN
    have eg : ∀ args w, (callFunc 37 args).run Try.prog w = .ok (.enter 37 args) w := enters_of Try.func37 (by kernel_rfl) rfl
    have hcon := AnyQ.slices_SortFunc_total Try.laysF06 5 Try.isAgg41 Try.sizeOf41 Tm.cs (fun _ => rfl) (fun x v hv => Tm.cs_one _ v hv) cmpT swoT 37 #[] q 0 c l.toArray w eg (cmpLaysT q 0 _ w) hH hq2 (by rw [List.size_toArray, hN]; omega) totT
    change Calls Try.prog 64 _ _ _ at hcon
    rw [List.size_toArray, hN, merge_T hs] at hcon
    refine hcon.mono ?_
    rintro e w' ⟨he, n, os, hw⟩
    refine ⟨he, ?_⟩
    have hH2 : HoldsK Tm.cs 5 (Sort.ahead w n) q 0 l.toArray := hH
    rw [hw]
    unfold sortWorldK
    rw [putRowK_self _ _ _ _ _ _ hH2]
    exact Gr.below ⟨n, os, rfl⟩
theorem sortedfunc_any (base P b1 b2 : Nat) (u : Value) (l D1 : List Tm) (now : Int) (N : Nat) (hD1 : (pops now l).1 = D1) (hN : D1.length = N) (hNL : N ≤ 1000) (hs : D1.Pairwise (fun a b => ¬ ltT b a)) (w : World) (hT : TM w base P u l)
    (hb1 : BoxN w b1 52 #[.pointer (some ⟨P, 0, none⟩)]) (hb2 : BoxN w b2 3 #[.int .i64 now]) :
    Calls Try.prog 46 #[.func (.func 55) #[] #[.pointer (some ⟨b1, 0, none⟩), .pointer (some ⟨b2, 0, none⟩)], .func (.func 37) #[] #[]] w fun e w' => ∃ a c, e = .returned (.slice a N c) ∧ RdM w' (.slice a N c) D1 ∧ Below base w w' := by
  have HT := Lib.hid hT
  have HB1 := Lib.hid hb1
  have HB2 := Lib.hid hb2
  have HS := Lib.hid hs
  have hbase : base ≤ w.heap.size := by have := hT.ge; have := (Array.getElem?_eq_some_iff.1 hT.box).1; omega
  clear hT hb1 hb2 hs
  go_enter Try.func46, Try.ntmps46
  go_wp2_with fail
  refine (collect_any base P b1 b2 u l D1 now N hD1 hN hNL _ HT.out HB1.out HB2.out).mono ?_
  rintro e w1 ⟨a, c, rfl, ho, hb⟩
  have HO := Lib.hid ho
  have hz := hb.size
  clear ho
  go_wp2_with fail
  refine (sort_any _ a N c D1 hN hNL HS.out _ HO.out).mono ?_
  rintro e w2 ⟨rfl, hb2⟩
  have HR := Lib.hid (RdL.keep hb2 (RdM.own HO.out hN))
  have hB := hb.trans (hb2.mono (by omega))
  clear hb hb2
  go_wp2_with fail
  go_ret
  exact ⟨a, c, rfl, HR.out, hB⟩
set_option maxHeartbeats 1000000 in
theorem sorted_any (v : Value) (l : List Tm) (w : World) (h : RdM w v l) : Calls Try.prog 30 #[v] w (LE w (sortW l)) := by
  have HR := Lib.hid h
  obtain ⟨er, ix, hc⟩ : ∃ er ix, chkW l = (er, ix) := ⟨_, _, rfl⟩
  obtain ⟨R, hR⟩ : ∃ R, sortW l = R := ⟨_, rfl⟩
  have hdef : R = if er ≠ 0 then ([], er) else ((pops 1099511627776 l).1, 0) := by
    rw [← hR]
    unfold sortW dueW
    rw [hc]
    by_cases he : er ≠ 0
    · rw [if_pos he, if_pos he]
    · rw [if_neg he, if_neg he, if_neg (by omega)]
  rw [hR]
  have HC := Lib.hid hc
  clear h hc hR
  by_cases he : er ≠ 0
  · have HX : Hid (R = ([], er)) := by unfold Hid; rw [hdef, if_pos he]
    have d1 : (er != 0) = true := by simpa using he
    clear hdef
    go_enter Try.func30, Try.ntmps30
    go_wp2_with fail
    refine (opened_no _ l er ix HC.out he _ HR.out).mono ?_
    rintro e w1 ⟨rfl, hb1⟩
    clear he
    go_wp2_with fail
    go_ret2
    exact ⟨_, by rw [HX.out]; rfl, by rw [HX.out]; exact RdM.nil _, hb1⟩
  · have HX : Hid (R = ((pops 1099511627776 l).1, 0)) := by unfold Hid; rw [hdef, if_neg he]
    obtain rfl : er = 0 := by omega
    have hg := good_iff.1 (show (chkW l).1 = 0 by rw [HC.out])
    have HS := Lib.hid (pops_hp 1099511627776 _ l rfl hg.2.2).2.2.2.2
    have hpl := pops_len 1099511627776 _ l rfl
    have hll := hg.1
    obtain ⟨D, hD⟩ : ∃ D, (pops 1099511627776 l).1 = D := ⟨_, rfl⟩
    have HD := Lib.hid hD
    rw [hD] at HX HS hpl
    have HNL : Hid (D.length ≤ 1000) := by unfold Hid; omega
    obtain ⟨N, hN⟩ : ∃ N, D.length = N := ⟨_, rfl⟩
    rw [hN] at HNL
    have HN := Lib.hid hN
    clear he hdef hg hpl hll hD hN
    go_enter Try.func30, Try.ntmps30
    go_wp2_with fail
    refine (opened_ok _ l ix HC.out _ HR.out).mono ?_
    rintro e w1 ⟨⟨P, u, rfl, hT⟩, hb1⟩
    have HT := Lib.hid hT
    clear hT
    go_wp2_with fail
    refine (until_any P 1099511627776 _).mono ?_
    rintro e w2 ⟨rfl, hx1, hx2, hb2, hz2⟩
    have HT2 := Lib.hid (HT.out.keep hb2)
    have HX1 := Lib.hid hx1
    have HX2 := Lib.hid hx2
    have hB2 := Below.next hb1 hb2
    clear hx1 hx2 hb2 hz2 hb1 HT
    go_wp2_with fail
    refine (sortedfunc_any w.heap.size P _ _ u l D 1099511627776 N HD.out HN.out HNL.out HS.out _ HT2.out HX1.out HX2.out).mono ?_
    rintro e w3 ⟨a, c, rfl, hr, hb3⟩
    have HRD := Lib.hid hr
    have hB3 := hB2.trans hb3
    clear hr hB2 hb3
    go_wp2_with fail
    go_ret2
    exact ⟨_, by rw [HX.out]; rfl, by rw [HX.out]; exact HRD.out, hB3⟩
end Go.Proofs.Ytigmhglkohjlhaa
