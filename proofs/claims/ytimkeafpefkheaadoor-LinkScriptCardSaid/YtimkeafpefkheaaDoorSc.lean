

/- Links: LinkScript holds of what is computed (walk). -/
import Derived.Test.YtimkeafpefkheaaDoorPc
import Derived.Test.YtimkeafpefkheaaDoorKn
import Derived.Test.YtimkeafpefkheaaDoorRu
namespace Go.Proofs.YtimkeafpefkheaaDoor
open Go.RowKit
set_option linter.unusedSimpArgs false
set_option linter.unusedVariables false
set_option maxRecDepth 100000

theorem getD_app {ts : List Tr} {t : Tr} {k : Nat} (hk : k < ts.length) : (ts ++ [t]).getD k t0 = ts.getD k t0 := by
  rw [List.getD_eq_getElem?_getD, List.getD_eq_getElem?_getD, List.getElem?_append_left hk]
theorem getD_app_last (ts : List Tr) (t : Tr) : (ts ++ [t]).getD ts.length t0 = t := by
  rw [List.getD_eq_getElem?_getD, List.getElem?_append_right (Nat.le_refl _), Nat.sub_self]
  rfl
theorem runL_app (l : List Fr) (ts : List Tr) (t : Tr) : ∀ k, k ≤ ts.length → runL l (ts ++ [t]) k = runL l ts k
  | 0, _ => rfl
  | k + 1, h => by
    show apL (runL l (ts ++ [t]) k) ((ts ++ [t]).getD k t0) = apL (runL l ts k) (ts.getD k t0)
    rw [runL_app l ts t k (by omega), getD_app (by omega)]
theorem runE_app {l : List Fr} {ts : List Tr} {t : Tr} (h : ∀ j, j < ts.length → runE l ts j = 0) (ht : apE (runL l ts ts.length) t = 0) : ∀ j, j < ts.length + 1 → runE l (ts ++ [t]) j = 0 := fun j hj => by
  unfold runE
  rw [runL_app l ts t j (by omega)]
  by_cases hjl : j = ts.length
  · subst hjl; rw [getD_app_last]; exact ht
  · rw [getD_app (by omega)]
    exact h j (by omega)
theorem runL_app_last (l : List Fr) (ts : List Tr) (t : Tr) : runL l (ts ++ [t]) (ts.length + 1) = apL (runL l ts ts.length) t := by
  show apL (runL l (ts ++ [t]) ts.length) ((ts ++ [t]).getD ts.length t0) = _
  rw [runL_app l ts t _ (Nat.le_refl _), getD_app_last]
theorem runL_sml {B : Nat} {l : List Fr} {ts : List Tr} (h : Sml B l) : ∀ k, (∀ j, j < k → runE l ts j = 0) → Sml B (runL l ts k)
  | 0, _ => h
  | k + 1, hz => apL_sml (runL_sml h k fun j hj => hz j (by omega)) (hz k (by omega))
/-- a block of one fault that has just been laid, as a slice of one element -/
theorem RdS.boxT (w : World) (T : TypeId) (t : Tr) : RdS (w.alloc (.cells #[.int .i64 t.k, .int .i64 t.i, .int .i64 t.j, .int .i64 t.b] T)) 4 (.slice (some ⟨w.heap.size, 0, none⟩) 1 1) 1 (rcs trR [t]) :=
  RdS.of_owns (owns_block _ 0 T 4 1 (rcs trR [t]) _ (Nat.zero_le _) (heap_last w _) rfl (by decide)) (by decide)
/-- what is read outside the row that an append grows -/
theorem rdt_grown {w w' : World} {base k c : Nat} {a : Option Addr} {v : Value} {l : List Fr} (hg : w.grownBy w' (Value.slice a k c).ownBlock) (hrow : ∀ b, (Value.slice a k c).ownBlock = some b → b < base) (hf : Fresh base v) (h : RdT w v l) : RdT w' v l := by
  obtain ⟨h1, h0, h2⟩ := h
  refine ⟨h1, h0, ?_⟩
  rcases h2 with h2 | ⟨b, off, cap, hv, hc, hr⟩
  · exact .inl h2
  · have hb := hf _ _ _ hv
    refine .inr ⟨b, off, cap, hv, hc, fun j u hj => ?_⟩
    have h3 := hr j u hj
    have hlt := cell_lt h3
    have hne : (Value.slice a k c).ownBlock ≠ some b := fun e => by have h4 := hrow b e; have h5 : base ≤ b := hb; omega
    rw [← h3]
    exact World.cell?_of_block (w := w) (hg.block b hlt (Ne.symm hne))
set_option maxHeartbeats 4000000 in
theorem script_any (v v2 : Value) (xs ys : List Int) (hib : ∀ x, x ∈ xs → Ib x) (hiy : ∀ x, x ∈ ys → Ib x) (w : World) (hkd : KD w) (h : RdI .i64 w v xs) (h2 : RdI .i64 w v2 ys) :
    Calls Tryd.prog 9 #[v, v2] w fun x w' => x = .returned (.bool true) ∧ Below w.heap.size w w' := by
  have HKD := Lib.hid hkd
  obtain ⟨a0, n0, rfl⟩ := h2.form
  have hmx := h2.2.1
  unfold maxLen at hmx
  obtain ⟨N, hN⟩ : ∃ N, ys.length = N := ⟨_, rfl⟩
  rw [hN] at h2 hmx ⊢
  have HN := Lib.hid hN
  have HX := Lib.hid h
  have HY := Lib.hid h2
  clear hkd h h2 hN
  go_enter Tryd.func9, Tryd.ntmps9
  go_wp2_with fail
  refine (known_any _ HKD.out).mono ?_
  rintro x w1 ⟨rfl, hB⟩
  have HX := Lib.hid (HX.out.keep hB)
  have HY := Lib.hid (HY.out.keep hB)
  have HKD := Lib.hid (HKD.out.keep hB)
  go_wp2_with fail
  refine (made_any _ xs hib _ HX.out).mono ?_
  rintro x w2 ⟨v0, l, rfl, hr, hl12, hsm, hb2⟩
  have HR := Lib.hid hr
  have HY := Lib.hid (HY.out.keep hb2)
  have HKD := Lib.hid (HKD.out.keep hb2)
  have hB := Below.next hB hb2
  have HSM : Hid (Sml 5 l) := hsm
  clear hb2 hr hsm HX
  go_wp2_with fail
  go_loopw [6, 8, 9] (fun u s i wr => ∃ (k : Nat) (a : Option Addr) (c : Nat) (ts : List Tr), k ≤ N ∧ k ≤ 12 ∧ i = .int .i64 k ∧ s = .slice a k c ∧ ts.length = k ∧ (∀ t, t ∈ ts → TrOk t) ∧ RdT wr u (runL l ts k) ∧ wr.ownsRow w2.heap.size 36 4 (.slice a k c) k (rcs trR ts) ∧ (∀ j, j < k → runE l ts j = 0) ∧ Below w2.heap.size w2 wr) (fun _ _ i _ => 12 - (intOf i).toNat)
  case atStart => exact ⟨0, none, 0, [], by omega, by omega, rfl, rfl, rfl, fun t ht => by (cases ht), HR.out, ⟨rfl, .inl ⟨rfl, rfl⟩⟩, fun j hj => by omega, Below.refl _ _⟩
  case round =>
    obtain ⟨k, a, c, ts, hk, hk12, rfl, rfl, hts, hto, hv, hown, hz0, hBr⟩ := hrel
    have HTS := Lib.hid hts
    have HTO := Lib.hid hto
    have HZ0 := Lib.hid hz0
    have HO := Lib.hid hown
    have hln := runL_len k hz0
    have HSR : Hid (Sml 5 (runL l ts k)) := runL_sml HSM.out k hz0
    obtain ⟨a6, c6, rfl⟩ := hv.form
    obtain ⟨m, HM⟩ : ∃ m, Hid (runL l ts k = m) := ⟨_, rfl⟩
    rw [HM.out] at hln hv HSR ⊢
    obtain ⟨L, hL⟩ : ∃ L, m.length = L := ⟨_, rfl⟩
    rw [hL] at hv hln ⊢
    have HL := Lib.hid hL
    have HV := Lib.hid hv
    clear hts hto hz0 hown hv hL
    have hlast : ∀ u : Value, u = .slice a6 L c6 → True := fun _ _ => trivial
    by_cases hgo : k < N ∧ k < 12 ∧ 0 < L
    · have d1 : decide ((k : Int) < (N : Int)) = true := yb (by omega)
      have d2 : decide ((k : Int) < 12) = true := yb (by omega)
      have d3 : decide ((0 : Int) < (L : Int)) = true := yb (by omega)
      obtain ⟨b, off, rfl, hcap, hc⟩ := rdi_at (RdI.keep hBr HY.out) HN.out k (by omega)
      have hix := ib_get hiy k
      obtain ⟨x, HX⟩ : ∃ x, Hid (ys.getD k 0 = x) := ⟨_, rfl⟩
      rw [HX.out] at hc hix
      have i1 : (0 : Int) ≤ (k : Int) := by omega
      have i2 : (k : Int) < (N : Int) := by omega
      have hwk : IntKind.i64.wrap (k : Int) = (k : Int) := IntWalk.i64_in _ (by omega)
      have hz0 := hBr.size
      have hsm := HSR.out
      have hte := trb_ok (l := m) (by rw [HL.out]; omega) (by rw [HL.out]; omega) (fun s hs => by have := hsm s hs; omega) (x % 1073741824) (by omega)
      clear hsm
      have HTE := Lib.hid hte.1
      have HTK := Lib.hid hte.2
      clear hte
      go_wp2_with fail
      refine (trouble_any _ m x hix (by rw [HL.out]; omega) (by rw [HL.out]; omega) (fun s hs => by have := HSR.out s hs; omega) _ HV.out).mono ?_
      obtain ⟨⟨tk, ti, tj, tb⟩, HT⟩ : ∃ t, Hid (trbV m (x % 1073741824) = t) := ⟨_, rfl⟩
      rw [HT.out] at HTE HTK ⊢
      rintro e w3 ⟨rfl, hb3⟩
      obtain ⟨W, hW⟩ : ∃ W : World, W = w3.alloc (.cells #[.int .i64 tk, .int .i64 ti, .int .i64 tj, .int .i64 tb] 36) := ⟨_, rfl⟩
      have hb3 : Below wr.heap.size wr W := by rw [hW]; exact Below.al hb3 _
      have bT : BoxN W w3.heap.size 36 #[.int .i64 tk, .int .i64 ti, .int .i64 tj, .int .i64 tb] := by rw [hW]; exact BoxN.new _ _ _
      have HV := Lib.hid (HV.out.keep hb3)
      have HO := Lib.hid (own_below HO.out hb3)
      have hBr := Below.next hBr hb3
      have q0 : W.cell? ⟨w3.heap.size, 0, none⟩ = some (.int .i64 tk) := bT.cell 0
      have q1 : W.cell? ⟨w3.heap.size, 1, none⟩ = some (.int .i64 ti) := bT.cell 1
      have q2 : W.cell? ⟨w3.heap.size, 2, none⟩ = some (.int .i64 tj) := bT.cell 2
      have q3 : W.cell? ⟨w3.heap.size, 3, none⟩ = some (.int .i64 tb) := bT.cell 3
      clear bT hb3
      go_upto_region 9 with fail
      rw [← hW]
      clear hW
      go_wp2_with fail
      refine (rapply_own _ m (HSR.out.szs (by decide)) ⟨tk, ti, tj, tb⟩ HTK.out.1 HTK.out.2.1 _ HV.out).mono ?_
      unfold ApF
      rw [HTE.out, if_pos rfl]
      rintro e w4 ⟨v4, rfl, hr4, hf4, hb4⟩
      have HR4 := Lib.hid hr4
      have HF4 := Lib.hid hf4
      have HLT : Hid (∀ b, (Value.slice a k c).ownBlock = some b → b < W.heap.size) := fun b hb => (World.ownsRow.lt HO.out b hb).2
      have q0 := cell_later hb4 q0
      have q1 := cell_later hb4 q1
      have q2 := cell_later hb4 q2
      have q3 := cell_later hb4 q3
      have hz4 := (Below.next hBr hb4).size
      have HO2 := Lib.hid ((own_below HO.out hb4).alloc (.cells #[.int .i64 tk, .int .i64 ti, .int .i64 tj, .int .i64 tb] 36))
      have HF1 : Hid (RdS (w4.alloc (.cells #[.int .i64 tk, .int .i64 ti, .int .i64 tj, .int .i64 tb] 36)) 4 (.slice (some ⟨w4.heap.size, 0, none⟩) 1 1) 1 (rcs trR [⟨tk, ti, tj, tb⟩])) := RdS.boxT w4 _ ⟨tk, ti, tj, tb⟩
      have HR4 := Lib.hid (HR4.out.keep (Below.al (Below.refl _ w4) (.cells #[.int .i64 tk, .int .i64 ti, .int .i64 tj, .int .i64 tb] 36)))
      have hBr := Below.al (Below.next hBr hb4) (.cells #[.int .i64 tk, .int .i64 ti, .int .i64 tj, .int .i64 tb] 36)
      clear hr4 hf4 hb4 HV HO
      go_wp2_with (at_builtin; refine wpList_app rfl (.tmp 49) (.tmp 51) 49 rfl w2.heap.size 36 _ 4 32 ETr _ k (rcs trR ts) rfl HO2.out _ 1 (rcs trR [⟨tk, ti, tj, tb⟩]) rfl HF1.out (rcs_one _ _) ?_ ?_ ?_ ?_)
      · unfold maxLen; omega
      · omega
      · simp; omega
      intro a3 c3 w5 hown5 hg5 hb5
      have HR5 := Lib.hid (rdt_grown hg5 HLT.out HF4.out HR4.out)
      have hB5 : Below w2.heap.size w2 w5 := hBr.trans hb5
      have HTA : Hid (rcs trR (ts ++ [⟨tk, ti, tj, tb⟩]) = rcs trR ts ++ rcs trR [⟨tk, ti, tj, tb⟩]) := rcs_append _ _ _
      have HO5 : Hid (w5.ownsRow w2.heap.size 36 4 (.slice a3 (k + 1) c3) (k + 1) (rcs trR (ts ++ [⟨tk, ti, tj, tb⟩]))) := by unfold Hid; rw [HTA.out]; exact hown5
      have HRL : Hid (runL l (ts ++ [⟨tk, ti, tj, tb⟩]) (k + 1) = apL m ⟨tk, ti, tj, tb⟩) := by unfold Hid; rw [← HTS.out, runL_app_last, HTS.out, HM.out]
      have HRE : Hid (∀ j, j < k + 1 → runE l (ts ++ [⟨tk, ti, tj, tb⟩]) j = 0) := by
        unfold Hid
        rw [← HTS.out]
        exact runE_app (by rw [HTS.out]; exact HZ0.out) (by rw [HTS.out, HM.out]; exact HTE.out)
      clear hown5 hg5 hb5 hBr HO2 HF1 HR4
      go_wp2_with fail
      go_roundw
      case rel => exact ⟨k + 1, a3, c3, ts ++ [⟨tk, ti, tj, tb⟩], by omega, by omega, by go_num, rfl, by rw [List.length_append, HTS.out]; rfl, fun t ht => by
        rcases List.mem_append.1 ht with h | h
        · exact HTO.out t h
        · simp at h
          subst h
          exact HTK.out, by rw [HRL.out]; exact HR5.out, HO5.out, HRE.out, hB5⟩
      case measure => simp [intOf]; omega
    · have d0 : (decide ((k : Int) < (N : Int)) && decide ((k : Int) < 12) && decide ((0 : Int) < (L : Int))) = false := by
        rw [Bool.eq_false_iff]
        intro h
        simp only [Bool.and_eq_true, decide_eq_true_eq] at h
        exact hgo (by omega)
      obtain ⟨c1, e1⟩ : ∃ b, decide ((k : Int) < (N : Int)) = b := ⟨_, rfl⟩
      obtain ⟨c2, e2⟩ : ∃ b, decide ((k : Int) < 12) = b := ⟨_, rfl⟩
      obtain ⟨c3, e3⟩ : ∃ b, decide ((0 : Int) < (L : Int)) = b := ⟨_, rfl⟩
      rw [e1, e2, e3] at d0
      have e3' : decide (0 < L) = c3 := by rw [← e3]; simp
      have e1' : decide (k < N) = c1 := by rw [← e1]; simp
      have e2' : decide (k < 12) = c2 := by rw [← e2]; exact decide_eq_decide.2 (by omega)
      have HS : Hid (RdL trR wr (.slice a k c) ts) := by unfold Hid RdL; rw [HTS.out]; exact RdS.of_owns HO.out (by decide)
      have HRV : Hid (runV l ts = (m, 0, 0)) := by
        unfold Hid runV
        rw [show (chkL l).1 = 0 by rw [chk_ok (by omega) (fun s hs => by have := HSM.out s hs; omega)], if_neg (by simp), HTS.out, scanR_zero k HZ0.out, if_neg (by simp), HM.out]
      have HRl := Lib.hid (HR.out.keep hBr)
      have HK := Lib.hid (HKD.out.keep hBr)
      have hB := Below.next hB hBr
      have hlm : m.length ≤ 1000000 := by rw [HL.out]; omega
      clear hgo hBr HO HR HKD
      have hne : ¬ (c1 = true ∧ c2 = true ∧ c3 = true) := fun ⟨h1, h2, h3⟩ => by rw [h1, h2, h3] at d0; exact absurd d0 (by decide)
      clear d0
      cases c1 <;> cases c2 <;> cases c3 <;> first | exact absurd ⟨rfl, rfl, rfl⟩ hne | clear hne
      all_goals
        go_wp2_with fail
        refine (run_any _ _ l (HSM.out.szs (by decide)) ts HTO.out (by rw [HTS.out]; omega) _ HK.out HRl.out HS.out).mono ?_
        rw [HRV.out]
        rintro x w4 ⟨v4, rfl, hr4, hb4⟩
        have HR4 := Lib.hid hr4
        have HV4 := Lib.hid (HV.out.keep hb4)
        have hB4 := Below.next hB hb4
        clear hr4 hb4
        dsimp only
        go_wp2_with fail
        refine (sameTexts_eq _ _ m hlm _ HR4.out HV4.out).mono ?_
        rintro x w6 ⟨rfl, hb6⟩
        have hB6 := Below.next hB4 hb6
        go_wp2_with fail
        go_ret
        exact ⟨rfl, hB6⟩
end Go.Proofs.YtimkeafpefkheaaDoor
