

/- Volume: the reference's Carry. -/
import Derived.Test.YtnbjdgjopdeolaaT
namespace Go.Proofs.Ytnbjdgjopdeolaa
open Go.RowKit Go.Shelf
set_option linter.unusedSimpArgs false
set_option linter.unusedVariables false
set_option maxRecDepth 100000

theorem stepC_zero {cs : List Ct} {bs : List Int} {t : Int} {k : Nat} {s : CS} (hs : s.2.2 = 0) (hok : okC (cs.getD k c0)) (hf : 0 ≤ bs.getD k 0 ∧ bs.getD k 0 ≤ vol (cs.getD k c0)) : stepC cs bs t k s = s := by
  unfold stepC
  have h := beg_bd (t := t) hok hf.1 hf.2
  rw [if_neg]
  unfold prt
  omega
theorem carK_zero {cs : List Ct} {bs : List Int} {fr dt t n : Int} (hok : planChk cs = (0, 0)) (hf : Fit cs bs) {k : Nat} (h : (carK cs bs fr dt t n k).2.2 = 0) : ∀ m, k ≤ m → m ≤ cs.length → carK cs bs fr dt t n m = carK cs bs fr dt t n k := by
  intro m hk
  induction m with
  | zero => intro _; rw [Nat.le_zero.1 hk]
  | succ m ih =>
    intro hm
    by_cases he : k = m + 1
    · rw [he]
    · have h1 := ih (by omega) (by omega)
      conv => { lhs; unfold carK }
      split
      · rw [h1, stepC_zero h (okC_of hok (by omega)) (hf m (by omega))]
      · exact h1
theorem CInv.carK {cs : List Ct} {bs : List Int} {fr dt t n : Int} (h : bs.length = cs.length) (hn : 0 ≤ n) : ∀ k, CInv cs.length n (carK cs bs fr dt t n k)
  | 0 => CInv.start h hn
  | k + 1 => by
    unfold Go.Proofs.Ytnbjdgjopdeolaa.carK
    split
    · exact (CInv.carK h hn k).step
    · exact CInv.carK h hn k

set_option maxHeartbeats 2000000 in
theorem rcarry_yes (cs : List Ct) (v : Value) (bs : List Int) (u : Value) (fr dt t n : Int) (hbk : bkE cs bs = 0) (hov : overK cs bs cs.length = []) (g1 : (nodeB fr && nodeB dt) = true) (h3 : tickB t = true) (h4 : bytesB n = true)
    (er fin : Int) (out : List Int) (hv : Crv cs bs fr dt t n = (out, fin, er)) (w : World) (h : RdC w v cs) (hu : RdI .i64 w u bs) :
    Calls Try.prog 45 #[v, u, .int .i64 fr, .int .i64 dt, .int .i64 t, .int .i64 n] w (C3 w out fin er) := by
  obtain ⟨hok, hl⟩ := bkE_zero hbk
  obtain ⟨a0, n0, rfl⟩ := h.form
  obtain ⟨a1, n1, rfl⟩ := hu.form
  obtain ⟨N, hN⟩ : ∃ N, cs.length = N := ⟨_, rfl⟩
  rw [hl, hN] at hu ⊢
  rw [hN] at h
  have hm : N ≤ 200 := by rw [← hN]; exact (ok_of_planChk hok).1
  have hn : 1 ≤ n ∧ n ≤ 1099511627776 := by simpa [bytesB] using h4
  have HR := Lib.hid h
  have HU := Lib.hid hu
  have HN := Lib.hid hN
  have HBL := Lib.hid (hl.trans hN)
  have HP := Lib.hid hok
  have HBK := Lib.hid hbk
  have HF := Lib.hid (fit_of_over hov)
  have HOV := Lib.hid hov
  have HV := Lib.hid hv
  have HG1 := Lib.hid g1
  have HT := Lib.hid h3
  have d3 : decide (n < 1) = false := nb (by omega)
  have d4 : decide (1099511627776 < n) = false := nb (by omega)
  clear h hu hN hok hl hbk hov hv g1
  go_enter Try.func45, Try.ntmps45
  go_wp2_with fail
  refine (rOver_any cs _ bs _ _ HR.out HU.out).mono ?_
  rintro e w1 ⟨r, rfl, hr, _, hb⟩
  have hovl : ovL cs bs = [] := by unfold ovL; rw [if_pos HBK.out]; exact HOV.out
  rw [hovl] at hr
  rw [HBK.out]
  obtain ⟨ra, rc, rfl⟩ := hr.form
  rw [show ([] : List Int).length = 0 from rfl]
  clear hr hovl
  have hrd0 : RdS (w1.alloc (.cells #[] 3)) 1 (.slice a1 N n1) N (ic .i64 bs) := by
    have := HU.out.keep (hb.alloc hb.size (.cells #[] 3))
    unfold RdI at this
    rw [HBL.out] at this
    exact this
  have hown0 : (w1.alloc (.cells #[] 3)).ownsRow w1.heap.size 3 1 (.slice (some ⟨w1.heap.size, 0, none⟩) 0 0) 0 [] := owns_block _ _ 3 1 0 [] _ (Nat.le_refl _) (heap_last w1 _) rfl (by decide)
  have HRD := Lib.hid hrd0
  have HOW := Lib.hid hown0
  clear hrd0 hown0
  go_wp2_with (first
    | (go_at_call 85; refine (rnodes_any _ _ _).mono ?_; rw [HG1.out]; rintro e w2 ⟨rfl, rfl⟩)
    | (go_at_call 71; refine (rtick_any _ _).mono ?_; rintro e w2 ⟨rfl, rfl⟩)
    | (at_builtin; refine wpList_app rfl (.tmp 57) (.tmp 58) 52 rfl w1.heap.size 3 (.int .i64 0) 1 8 E52 _ 0 [] rfl HOW.out _ N (ic .i64 bs) rfl HRD.out (ic_one _ _) ?c1 ?c2 ?c3 ?c4)
    | fail)
  case c1 => unfold maxLen; omega
  case c2 => omega
  case c3 => simp
  case c4 =>
    intro a3 c3 w3 hown hg hb3
    have hown : w3.ownsRow w1.heap.size 3 1 (.slice a3 N c3) N (ic .i64 bs) := by first | with_reducible exact hown | simpa using hown
    have hB3 : Below w.heap.size w w3 := Below.next hb (((Below.refl _ w1).alloc (Nat.le_refl _) _).trans hb3)
    have hown := own_mono (base' := w.heap.size) hown hb.size
    clear hb hb3 hg HRD HOW
    have HOWN := Lib.hid hown
    clear hown
    go_wp2_with fail
    go_loopw [5, 18, 19] (fun nn f i wr => ∃ (k : Nat) (s : CS), k ≤ N ∧ i = .int .i64 k ∧ nn = .int .i64 s.2.2 ∧ f = .int .i64 s.2.1 ∧ Hid (carK cs bs fr dt t n k = s) ∧ Hid (wr.ownsRow w.heap.size 3 1 (.slice a3 N c3) N (ic .i64 s.1)) ∧ Below w.heap.size w wr) (fun _ _ i _ => N - (intOf i).toNat)
    case atStart => exact ⟨0, (bs, 0, n), Nat.zero_le _, rfl, rfl, rfl, rfl, HOWN.out, hB3⟩
    case round =>
      clear hB3 HOWN
      obtain ⟨k, s, hk, rfl, rfl, rfl, HS, HO, hB⟩ := hrel
      have hinv : CInv N n s := by rw [← HS.out, ← HN.out]; exact CInv.carK (by rw [HBL.out, HN.out]) (by omega) k
      have hin2 := hinv.2
      by_cases hlt : k < N
      · have d2 : decide ((k : Int) < (N : Int)) = true := yb (by omega)
        by_cases hp : 0 < s.2.2
        · have d5 : decide (0 < s.2.2) = true := yb hp
          obtain ⟨b, off, rfl, hcap, hca⟩ := HR.out.at HN.out k hlt
          obtain ⟨b2, off2, rfl, hcap2, hcb⟩ := HU.out.at HBL.out k hlt
          have hok : okC (cs.getD k c0) := okC_of HP.out (by rw [HN.out]; exact hlt)
          have hfit := HF.out k (by rw [HN.out]; exact hlt)
          obtain ⟨c, HC⟩ : ∃ c, Hid (cs.getD k c0 = c) := ⟨_, rfl⟩
          rw [HC.out] at hca hok hfit
          obtain ⟨bv, HBv⟩ : ∃ x, Hid (bs.getD k 0 = x) := ⟨_, rfl⟩
          rw [HBv.out] at hcb hfit
          have hca := CA.keep hB hca
          have hcb := cell_later hB hcb
          have i1 : (0 : Int) ≤ (k : Int) := by omega
          have i2 : (k : Int) < (N : Int) := by omega
          have hwk : IntKind.i64.wrap (k : Int) = (k : Int) := IntWalk.i64_in _ (by omega)
          have hbe : carK cs bs fr dt t n (k + 1) = if c.fr = fr ∧ c.dt = dt then stepC cs bs t k s else s := by rw [← HC.out, ← HS.out]; rfl
          by_cases hf : c.fr = fr
          · by_cases ht : c.dt = dt
            · have e1 : (c.fr != fr) = false := by simp [hf]
              have e2 : (c.dt != dt) = false := by simp [ht]
              rw [if_pos ⟨hf, ht⟩] at hbe
              obtain ⟨g, HG⟩ : ∃ g, Hid (max bv (pos c t) = g) := ⟨_, rfl⟩
              have hgb : 0 ≤ g ∧ g ≤ vol c := by rw [← HG.out]; exact beg_bd hok hfit.1 hfit.2
              have hvb := vol_bd c hok
              change 0 ≤ vol c ∧ vol c ≤ _ at hvb
              obtain ⟨p, HPv⟩ : ∃ p, Hid ((if vol c - g < s.2.2 then vol c - g else s.2.2) = p) := ⟨_, rfl⟩
              have HPR : Hid (prt c bv t s.2.2 = p) := by unfold Hid prt beg; rw [HG.out, ← HPv.out]; split <;> omega
              have hpb : p ≤ vol c - g ∧ p ≤ s.2.2 := by rw [← HPv.out]; split <;> omega
              have hst : stepC cs bs t k s = if 0 < p then (s.1.set k (g + p), max s.2.1 (thr c (g + p)), s.2.2 - p) else s := by
                unfold stepC; rw [HC.out, HBv.out, HPR.out]; unfold beg; rw [HG.out]
              have hlf : Lf c bv t (vol c - g) 0 := by rw [← HG.out]; exact Lf.fine hok HT.out hfit.1 hfit.2
              have HLF := Lib.hid hlf
              have HBE := Lib.hid hbe
              clear hbe hf ht hlf
              go_wp2_with fail
              refine wp_region_calm (fun w' => Below wr.heap.size wr w') 99 (by kernel_rfl) ((Below.refl _ wr).drew) ?_
              refine cm_run 0 87 (v := ?_) rfl rfl (by kernel_rfl) (by kernel_rfl) (by kernel_rfl) (by kernel_rfl) (by kernel_rfl) (fun _ _ _ h => h) (by rfl) ?_ ?_
              rotate_left
              · (intro wS hS; skip; go_simp; (try with_reducible rfl))
              simp only [List.setIfInBounds_toArray, List.set_cons_zero, List.set_cons_succ]
              refine cm_run 1 88 (v := ?_) rfl rfl (by kernel_rfl) (by kernel_rfl) (by kernel_rfl) (by kernel_rfl) (by kernel_rfl) (fun _ _ _ h => h) (by rfl) ?_ ?_
              rotate_left
              · (intro wS hS; skip; go_simp; (try with_reducible rfl))
              simp only [List.setIfInBounds_toArray, List.set_cons_zero, List.set_cons_succ]
              refine cm_run 2 89 (v := ?_) rfl rfl (by kernel_rfl) (by kernel_rfl) (by kernel_rfl) (by kernel_rfl) (by kernel_rfl) (fun _ _ _ h => h) (by rfl) ?_ ?_
              rotate_left
              · (intro wS hS; skip; go_simp; (try with_reducible rfl))
              simp only [List.setIfInBounds_toArray, List.set_cons_zero, List.set_cons_succ]
              refine cm_run 3 90 (v := ?_) rfl rfl (by kernel_rfl) (by kernel_rfl) (by kernel_rfl) (by kernel_rfl) (by kernel_rfl) (fun _ _ _ h => h) (by rfl) ?_ ?_
              rotate_left
              · (intro wS hS; have g := CA.keep hS hca; go_simp; (try with_reducible rfl))
              simp only [List.setIfInBounds_toArray, List.set_cons_zero, List.set_cons_succ]
              refine cm_run 4 91 (v := ?_) rfl rfl (by kernel_rfl) (by kernel_rfl) (by kernel_rfl) (by kernel_rfl) (by kernel_rfl) (fun _ _ _ h => h) (by rfl) ?_ ?_
              rotate_left
              · (intro wS hS; skip; go_simp; (try with_reducible rfl))
              simp only [List.setIfInBounds_toArray, List.set_cons_zero, List.set_cons_succ]
              refine cm_run 5 92 (v := ?_) rfl rfl (by kernel_rfl) (by kernel_rfl) (by kernel_rfl) (by kernel_rfl) (by kernel_rfl) (fun _ _ _ h => h) (by rfl) ?_ ?_
              rotate_left
              · (intro wS hS; skip; go_simp; (try with_reducible rfl))
              simp only [List.setIfInBounds_toArray, List.set_cons_zero, List.set_cons_succ]
              refine cm_run 6 93 (v := ?_) rfl rfl (by kernel_rfl) (by kernel_rfl) (by kernel_rfl) (by kernel_rfl) (by kernel_rfl) (fun _ _ _ h => h) (by rfl) ?_ ?_
              rotate_left
              · (intro wS hS; skip; go_simp; (try with_reducible rfl))
              simp only [List.setIfInBounds_toArray, List.set_cons_zero, List.set_cons_succ]
              refine cm_run 7 94 (v := ?_) rfl rfl (by kernel_rfl) (by kernel_rfl) (by kernel_rfl) (by kernel_rfl) (by kernel_rfl) (fun _ _ _ h => h) (by rfl) ?_ ?_
              rotate_left
              · (intro wS hS; have g := cell_later hS hcb; go_simp; (try with_reducible rfl))
              simp only [List.setIfInBounds_toArray, List.set_cons_zero, List.set_cons_succ]
              refine cm_run 8 95 (v := ?_) rfl rfl (by kernel_rfl) (by kernel_rfl) (by kernel_rfl) (by kernel_rfl) (by kernel_rfl) (fun _ _ _ h => h) (by rfl) ?_ ?_
              rotate_left
              · (intro wS hS; skip; go_simp; (try with_reducible rfl))
              simp only [List.setIfInBounds_toArray, List.set_cons_zero, List.set_cons_succ]
              refine cm_call 9 96 25 (v := (V2 (vol c - g) 0)) (args := ?_) rfl rfl (by kernel_rfl) (by kernel_rfl) (by kernel_rfl) (by kernel_rfl) (by kernel_rfl) (fun _ _ _ h => h) (by rfl) ?_ ?_ ?_
              rotate_left 1
              · (intro wS hS; go_simp; (try with_reducible rfl))
              · (intro wS hS; refine (rleft_any c bv t _ _ HLF.out _).mono ?_; (rintro e w2 ⟨rfl, hb⟩; exact ⟨rfl, Below.next hS hb⟩))
              simp only [List.setIfInBounds_toArray, List.set_cons_zero, List.set_cons_succ]
              refine cm_run 10 86 (v := ?_) rfl rfl (by kernel_rfl) (by kernel_rfl) (by kernel_rfl) (by kernel_rfl) (by kernel_rfl) (fun _ _ _ h => h) (by rfl) ?_ ?_
              rotate_left
              · (intro wS hS; skip; go_simp; (try with_reducible rfl))
              simp only [List.setIfInBounds_toArray, List.set_cons_zero, List.set_cons_succ]
              refine cm_run 11 97 (v := ?_) rfl rfl (by kernel_rfl) (by kernel_rfl) (by kernel_rfl) (by kernel_rfl) (by kernel_rfl) (fun _ _ _ h => h) (by rfl) ?_ ?_
              rotate_left
              · (intro wS hS; skip; go_simp; (try with_reducible rfl))
              simp only [List.setIfInBounds_toArray, List.set_cons_zero, List.set_cons_succ]
              refine cm_run 12 98 (v := ?_) rfl rfl (by kernel_rfl) (by kernel_rfl) (by kernel_rfl) (by kernel_rfl) (by kernel_rfl) (fun _ _ _ h => h) (by rfl) ?_ ?_
              rotate_left
              · (intro wS hS; skip; go_simp; (try with_reducible rfl))
              simp only [List.setIfInBounds_toArray, List.set_cons_zero, List.set_cons_succ]
              refine cm_run 13 20 (v := ?_) rfl rfl (by kernel_rfl) (by kernel_rfl) (by kernel_rfl) (by kernel_rfl) (by kernel_rfl) (fun _ _ _ h => h) (by rfl) ?_ ?_
              rotate_left
              · (intro wS hS; skip; go_simp; (try with_reducible rfl))
              simp only [List.setIfInBounds_toArray, List.set_cons_zero, List.set_cons_succ]
              refine cm_run 14 21 (v := ?_) rfl rfl (by kernel_rfl) (by kernel_rfl) (by kernel_rfl) (by kernel_rfl) (by kernel_rfl) (fun _ _ _ h => h) (by rfl) ?_ ?_
              rotate_left
              · (intro wS hS; skip; go_simp; (try with_reducible rfl))
              simp only [List.setIfInBounds_toArray, List.set_cons_zero, List.set_cons_succ]
              refine cm_done (by kernel_rfl) ?_
              intro wS hS
              refine NoPanic.normal ?_
              have hca := CA.keep hS hca
              have hcb := cell_later hS hcb
              have hB := Below.next hB hS
              have HO := Lib.hid (own_keep hS HO.out)
              obtain ⟨WA, rfl⟩ : ∃ WA, WA = wS := ⟨_, rfl⟩
              clear hS
              go_upto_region 14 with fail
              rw [HPv.out]
              by_cases hp2 : 0 < p
              · have d6 : decide (0 < p) = true := yb hp2
                rw [if_pos hp2] at hst
                have HST := Lib.hid hst
                have hbk2 : Bk c bv t p (thr c (g + p)) (g + p) 0 := by
                  rw [← HG.out]
                  exact Bk.fine hok HT.out hfit.1 hfit.2 (by simp [bytesB]; omega) (by rw [HG.out]; omega)
                have HBK2 := Lib.hid hbk2
                have hw2 : IntKind.i64.wrap (s.2.2 - p) = s.2.2 - p := IntWalk.i64_in _ (by omega)
                clear hst hbk2 hp2
                go_wp2_with fail
                refine wp_region_calm (fun w' => Below WA.heap.size WA w') 99 (by kernel_rfl) ((Below.refl _ WA).drew) ?_
                refine cm_run 0 105 (v := ?_) rfl rfl (by kernel_rfl) (by kernel_rfl) (by kernel_rfl) (by kernel_rfl) (by kernel_rfl) (fun _ _ _ h => h) (by rfl) ?_ ?_
                rotate_left
                · (intro wS hS; skip; go_simp; (try with_reducible rfl))
                simp only [List.setIfInBounds_toArray, List.set_cons_zero, List.set_cons_succ]
                refine cm_run 1 106 (v := ?_) rfl rfl (by kernel_rfl) (by kernel_rfl) (by kernel_rfl) (by kernel_rfl) (by kernel_rfl) (fun _ _ _ h => h) (by rfl) ?_ ?_
                rotate_left
                · (intro wS hS; skip; go_simp; (try with_reducible rfl))
                simp only [List.setIfInBounds_toArray, List.set_cons_zero, List.set_cons_succ]
                refine cm_run 2 107 (v := ?_) rfl rfl (by kernel_rfl) (by kernel_rfl) (by kernel_rfl) (by kernel_rfl) (by kernel_rfl) (fun _ _ _ h => h) (by rfl) ?_ ?_
                rotate_left
                · (intro wS hS; skip; go_simp; (try with_reducible rfl))
                simp only [List.setIfInBounds_toArray, List.set_cons_zero, List.set_cons_succ]
                refine cm_run 3 108 (v := ?_) rfl rfl (by kernel_rfl) (by kernel_rfl) (by kernel_rfl) (by kernel_rfl) (by kernel_rfl) (fun _ _ _ h => h) (by rfl) ?_ ?_
                rotate_left
                · (intro wS hS; have g := CA.keep hS hca; go_simp; (try with_reducible rfl))
                simp only [List.setIfInBounds_toArray, List.set_cons_zero, List.set_cons_succ]
                refine cm_run 4 109 (v := ?_) rfl rfl (by kernel_rfl) (by kernel_rfl) (by kernel_rfl) (by kernel_rfl) (by kernel_rfl) (fun _ _ _ h => h) (by rfl) ?_ ?_
                rotate_left
                · (intro wS hS; skip; go_simp; (try with_reducible rfl))
                simp only [List.setIfInBounds_toArray, List.set_cons_zero, List.set_cons_succ]
                refine cm_run 5 110 (v := ?_) rfl rfl (by kernel_rfl) (by kernel_rfl) (by kernel_rfl) (by kernel_rfl) (by kernel_rfl) (fun _ _ _ h => h) (by rfl) ?_ ?_
                rotate_left
                · (intro wS hS; skip; go_simp; (try with_reducible rfl))
                simp only [List.setIfInBounds_toArray, List.set_cons_zero, List.set_cons_succ]
                refine cm_run 6 111 (v := ?_) rfl rfl (by kernel_rfl) (by kernel_rfl) (by kernel_rfl) (by kernel_rfl) (by kernel_rfl) (fun _ _ _ h => h) (by rfl) ?_ ?_
                rotate_left
                · (intro wS hS; skip; go_simp; (try with_reducible rfl))
                simp only [List.setIfInBounds_toArray, List.set_cons_zero, List.set_cons_succ]
                refine cm_run 7 112 (v := ?_) rfl rfl (by kernel_rfl) (by kernel_rfl) (by kernel_rfl) (by kernel_rfl) (by kernel_rfl) (fun _ _ _ h => h) (by rfl) ?_ ?_
                rotate_left
                · (intro wS hS; have g := cell_later hS hcb; go_simp; (try with_reducible rfl))
                simp only [List.setIfInBounds_toArray, List.set_cons_zero, List.set_cons_succ]
                refine cm_run 8 113 (v := ?_) rfl rfl (by kernel_rfl) (by kernel_rfl) (by kernel_rfl) (by kernel_rfl) (by kernel_rfl) (fun _ _ _ h => h) (by rfl) ?_ ?_
                rotate_left
                · (intro wS hS; skip; go_simp; (try with_reducible rfl))
                simp only [List.setIfInBounds_toArray, List.set_cons_zero, List.set_cons_succ]
                refine cm_run 9 114 (v := ?_) rfl rfl (by kernel_rfl) (by kernel_rfl) (by kernel_rfl) (by kernel_rfl) (by kernel_rfl) (fun _ _ _ h => h) (by rfl) ?_ ?_
                rotate_left
                · (intro wS hS; skip; go_simp; (try with_reducible rfl))
                simp only [List.setIfInBounds_toArray, List.set_cons_zero, List.set_cons_succ]
                refine cm_call 10 115 23 (v := (V3 (thr c (g + p)) (g + p) 0)) (args := ?_) rfl rfl (by kernel_rfl) (by kernel_rfl) (by kernel_rfl) (by kernel_rfl) (by kernel_rfl) (fun _ _ _ h => h) (by rfl) ?_ ?_ ?_
                rotate_left 1
                · (intro wS hS; go_simp; (try with_reducible rfl))
                · (intro wS hS; refine (rbook_any c bv t p _ _ _ HBK2.out _).mono ?_; (rintro e w2 ⟨rfl, hb⟩; exact ⟨rfl, Below.next hS hb⟩))
                simp only [List.setIfInBounds_toArray, List.set_cons_zero, List.set_cons_succ]
                refine cm_run 11 104 (v := ?_) rfl rfl (by kernel_rfl) (by kernel_rfl) (by kernel_rfl) (by kernel_rfl) (by kernel_rfl) (fun _ _ _ h => h) (by rfl) ?_ ?_
                rotate_left
                · (intro wS hS; skip; go_simp; (try with_reducible rfl))
                simp only [List.setIfInBounds_toArray, List.set_cons_zero, List.set_cons_succ]
                refine cm_run 12 116 (v := ?_) rfl rfl (by kernel_rfl) (by kernel_rfl) (by kernel_rfl) (by kernel_rfl) (by kernel_rfl) (fun _ _ _ h => h) (by rfl) ?_ ?_
                rotate_left
                · (intro wS hS; skip; go_simp; (try with_reducible rfl))
                simp only [List.setIfInBounds_toArray, List.set_cons_zero, List.set_cons_succ]
                refine cm_run 13 117 (v := ?_) rfl rfl (by kernel_rfl) (by kernel_rfl) (by kernel_rfl) (by kernel_rfl) (by kernel_rfl) (fun _ _ _ h => h) (by rfl) ?_ ?_
                rotate_left
                · (intro wS hS; skip; go_simp; (try with_reducible rfl))
                simp only [List.setIfInBounds_toArray, List.set_cons_zero, List.set_cons_succ]
                refine cm_run 14 118 (v := ?_) rfl rfl (by kernel_rfl) (by kernel_rfl) (by kernel_rfl) (by kernel_rfl) (by kernel_rfl) (fun _ _ _ h => h) (by rfl) ?_ ?_
                rotate_left
                · (intro wS hS; skip; go_simp; (try with_reducible rfl))
                simp only [List.setIfInBounds_toArray, List.set_cons_zero, List.set_cons_succ]
                refine cm_run 15 23 (v := ?_) rfl rfl (by kernel_rfl) (by kernel_rfl) (by kernel_rfl) (by kernel_rfl) (by kernel_rfl) (fun _ _ _ h => h) (by rfl) ?_ ?_
                rotate_left
                · (intro wS hS; skip; go_simp; (try with_reducible rfl))
                simp only [List.setIfInBounds_toArray, List.set_cons_zero, List.set_cons_succ]
                refine cm_run 16 24 (v := ?_) rfl rfl (by kernel_rfl) (by kernel_rfl) (by kernel_rfl) (by kernel_rfl) (by kernel_rfl) (fun _ _ _ h => h) (by rfl) ?_ ?_
                rotate_left
                · (intro wS hS; skip; go_simp; (try with_reducible rfl))
                simp only [List.setIfInBounds_toArray, List.set_cons_zero, List.set_cons_succ]
                refine cm_run 17 25 (v := ?_) rfl rfl (by kernel_rfl) (by kernel_rfl) (by kernel_rfl) (by kernel_rfl) (by kernel_rfl) (fun _ _ _ h => h) (by rfl) ?_ ?_
                rotate_left
                · (intro wS hS; skip; go_simp; (try with_reducible rfl))
                simp only [List.setIfInBounds_toArray, List.set_cons_zero, List.set_cons_succ]
                refine cm_done (by kernel_rfl) ?_
                intro wS hS
                refine NoPanic.normal ?_
                have hB := Below.next hB hS
                have hO := own_keep hS HO.out
                obtain ⟨WB, rfl⟩ : ∃ WB, WB = wS := ⟨_, rfl⟩
                clear hS hca hcb HO
                obtain ⟨R, cap3, hRe⟩ := owns_pos hO (by omega)
                simp only [Value.slice.injEq, true_and] at hRe
                obtain ⟨rfl, rfl⟩ := hRe
                have hRl := World.ownsRow.lt hO R rfl
                have c1 : WB.cell? ⟨R, k, none⟩ = some (.int .i64 (s.1.getD k 0)) := by rw [World.ownsRow.cellAt hO k (by omega)]; exact ic_get _ _ _ (by rw [hinv.1]; exact hlt)
                have f1 := World.ownsRow.frozenAt hO k
                have HO2 : Hid ((WB.setCell ⟨R, k, none⟩ (.int .i64 (g + p))).ownsRow w.heap.size 3 1 (.slice (some ⟨R, 0, none⟩) N c3) N (ic .i64 (s.1.set k (g + p)))) := by
                  have := (World.ownsRow.stored hO k (.int .i64 (g + p))).1
                  unfold Hid
                  simpa [ic, List.map_set] using this
                have hB2 : Below w.heap.size w (WB.setCell ⟨R, k, none⟩ (.int .i64 (g + p))) := hB.setCell hRl.1 _
                have hmx : (if s.2.1 < thr c (g + p) then thr c (g + p) else s.2.1) = max s.2.1 (thr c (g + p)) := by omega
                have HMX := Lib.hid hmx
                clear hmx hO hB
                go_wp2_with fail
                go_roundw
                case rel => exact ⟨k + 1, (s.1.set k (g + p), max s.2.1 (thr c (g + p)), s.2.2 - p), by omega, by go_num, rfl, by rw [HMX.out], by unfold Hid; rw [HBE.out, HST.out], HO2.out, hB2⟩
                case measure => simp [intOf]; omega
              · have d6 : decide (0 < p) = false := nb hp2
                rw [if_neg hp2] at hst
                have HST := Lib.hid hst
                clear hst hp2
                go_wp2_with fail
                go_roundw
                case rel => exact ⟨k + 1, s, by omega, by go_num, rfl, rfl, by unfold Hid; rw [HBE.out, HST.out], HO.out, hB⟩
                case measure => simp [intOf]; omega
            · have e1 : (c.fr != fr) = false := by simp [hf]
              have e2 : (c.dt != dt) = true := by simp [ht]
              rw [if_neg (fun h => ht h.2)] at hbe
              have HB := Lib.hid hbe
              clear hbe hf ht
              go_wp2_with fail
              go_roundw
              case rel => exact ⟨k + 1, s, by omega, by go_num, rfl, rfl, HB.out, HO, hB⟩
              case measure => simp [intOf]; omega
          · have e1 : (c.fr != fr) = true := by simp [hf]
            rw [if_neg (fun h => hf h.1)] at hbe
            have HB := Lib.hid hbe
            clear hbe hf
            go_wp2_with fail
            go_roundw
            case rel => exact ⟨k + 1, s, by omega, by go_num, rfl, rfl, HB.out, HO, hB⟩
            case measure => simp [intOf]; omega
        · have d5 : decide (0 < s.2.2) = false := nb hp
          have hz : s.2.2 = 0 := by omega
          have hvv : (s.1, s.2.1, (0 : Int)) = (out, fin, er) := by
            have hcv : Crv cs bs fr dt t n = (s.1, s.2.1, 0) := by
              unfold Crv
              have hz2 : carK cs bs fr dt t n cs.length = s := by rw [carK_zero HP.out HF.out (k := k) (by rw [HS.out]; exact hz) cs.length (by rw [HN.out]; omega) (Nat.le_refl _), HS.out]
              rw [if_neg (by rw [HBK.out]; simp), if_neg (by rw [HG1.out, HT.out, h4, HOV.out]; simp), hz2, if_neg (by omega)]
            exact hcv.symm.trans HV.out
          have HVV := Lib.hid hvv
          clear hz hvv hp
          go_wp2_with fail
          go_ret3
          obtain ⟨rfl, rfl, rfl⟩ : out = s.1 ∧ fin = s.2.1 ∧ er = 0 := by have := HVV.out; simp only [Prod.mk.injEq] at this; exact ⟨this.1.symm, this.2.1.symm, this.2.2.symm⟩
          refine ⟨_, rfl, ?_, hB⟩
          have := HO.out
          rw [← hinv.1] at this ⊢
          exact rdi_owns this
      · obtain rfl : k = N := by omega
        have d2 : decide ((k : Int) < (k : Int)) = false := nb (by omega)
        have hcv : Crv cs bs fr dt t n = if 0 < s.2.2 then ([], 0, 16) else (s.1, s.2.1, 0) := by
          unfold Crv
          rw [if_neg (by rw [HBK.out]; simp), if_neg (by rw [HG1.out, HT.out, h4, HOV.out]; simp), HN.out, HS.out]
        by_cases hp : 0 < s.2.2
        · have d5 : decide (0 < s.2.2) = true := yb hp
          rw [if_pos hp] at hcv
          have HVV := Lib.hid (hcv.symm.trans HV.out)
          clear hcv hp
          go_wp2_with fail
          go_ret3
          obtain ⟨rfl, rfl, rfl⟩ : out = [] ∧ fin = 0 ∧ er = 16 := by have := HVV.out; simp only [Prod.mk.injEq] at this; exact ⟨this.1.symm, this.2.1.symm, this.2.2.symm⟩
          exact ⟨_, rfl, RdI.nil _ _, hB⟩
        · have d5 : decide (0 < s.2.2) = false := nb hp
          rw [if_neg hp] at hcv
          have HVV := Lib.hid (hcv.symm.trans HV.out)
          clear hcv hp
          go_wp2_with fail
          go_ret3
          obtain ⟨rfl, rfl, rfl⟩ : out = s.1 ∧ fin = s.2.1 ∧ er = 0 := by have := HVV.out; simp only [Prod.mk.injEq] at this; exact ⟨this.1.symm, this.2.1.symm, this.2.2.symm⟩
          refine ⟨_, rfl, ?_, hB⟩
          have := HO.out
          rw [← hinv.1] at this ⊢
          exact rdi_owns this

set_option maxHeartbeats 2000000 in
theorem rcarry_any (cs : List Ct) (v : Value) (bs : List Int) (u : Value) (fr dt t n : Int)
    (er fin : Int) (out : List Int) (hv : Crv cs bs fr dt t n = (out, fin, er)) (w : World) (h : RdC w v cs) (hu : RdI .i64 w u bs) :
    Calls Try.prog 45 #[v, u, .int .i64 fr, .int .i64 dt, .int .i64 t, .int .i64 n] w (C3 w out fin er) := by
  obtain ⟨a0, n0, rfl⟩ := h.form
  obtain ⟨a1, n1, rfl⟩ := hu.form
  have HR := Lib.hid h
  have HU := Lib.hid hu
  by_cases hbk : bkE cs bs = 0
  · have HBK := Lib.hid hbk
    by_cases hg : (nodeB fr && nodeB dt && tickB t && bytesB n) = true
    · by_cases hov : overK cs bs cs.length = []
      · simp only [Bool.and_eq_true] at hg
        exact rcarry_yes cs _ bs _ fr dt t n hbk hov (by rw [hg.1.1.1, hg.1.1.2]; rfl) hg.1.2 hg.2 er fin out hv w h hu
      · unfold Crv at hv
        rw [if_neg (by rw [hbk]; simp), if_pos (.inr hov)] at hv
        obtain ⟨rfl, rfl, rfl⟩ : out = [] ∧ fin = 0 ∧ er = 2 := by simpa [eq_comm] using hv
        simp only [Bool.and_eq_true] at hg
        obtain ⟨⟨⟨h1, h2⟩, h3⟩, h4⟩ := hg
        have HG1 : Hid ((nodeB fr && nodeB dt) = true) := by unfold Hid; rw [h1, h2]; rfl
        have hn : 1 ≤ n ∧ n ≤ 1099511627776 := by simpa [bytesB] using h4
        have d3 : decide (n < 1) = false := nb (by omega)
        have d4 : decide (1099511627776 < n) = false := nb (by omega)
        obtain ⟨M, hM⟩ : ∃ M, (ovL cs bs).length = M + 1 := by
          have h5 : ovL cs bs = overK cs bs cs.length := by unfold ovL; rw [if_pos hbk]
          rw [h5]
          exact ⟨(overK cs bs cs.length).length - 1, by have := List.length_pos_iff.2 hov; omega⟩
        have HM := Lib.hid hM
        have d9 : decide (0 < ((M + 1 : Nat) : Int)) = true := yb (by omega)
        have d10 : decide ((0 : Int) < (M : Int) + 1) = true := yb (by omega)
        clear h hu hbk hov hv hM h1 h2 h4
        go_enter Try.func45, Try.ntmps45
        go_wp2_with fail
        refine (rOver_any cs _ bs _ _ HR.out HU.out).mono ?_
        rintro e w1 ⟨r, rfl, hr, _, hb⟩
        obtain ⟨ra, rc, rfl⟩ := hr.form
        rw [HM.out, HBK.out]
        clear hr
        go_wp2_with (first
          | (go_at_call 85; refine (rnodes_any _ _ _).mono ?_; rw [HG1.out]; rintro e w2 ⟨rfl, rfl⟩)
          | (go_at_call 71; refine (rtick_any _ _).mono ?_; rintro e w2 ⟨rfl, rfl⟩)
          | fail)
        go_ret3
        exact ⟨_, rfl, RdI.nil _ _, hb⟩
    · unfold Crv at hv
      rw [if_neg (by rw [hbk]; simp), if_pos (.inl (by simpa using hg))] at hv
      obtain ⟨rfl, rfl, rfl⟩ : out = [] ∧ fin = 0 ∧ er = 2 := by simpa [eq_comm] using hv
      clear h hu hbk hv
      cases g0 : (nodeB fr && nodeB dt) with
      | false =>
        have HG1 := Lib.hid g0
        clear hg g0
        go_enter Try.func45, Try.ntmps45
        go_wp2_with fail
        refine (rOver_any cs _ bs _ _ HR.out HU.out).mono ?_
        rintro e w1 ⟨r, rfl, hr, _, hb⟩
        obtain ⟨ra, rc, rfl⟩ := hr.form
        rw [HBK.out]
        clear hr
        go_wp2_with (first
          | (go_at_call 85; refine (rnodes_any _ _ _).mono ?_; rw [HG1.out]; rintro e w2 ⟨rfl, rfl⟩)
          | (go_at_call 71; refine (rtick_any _ _).mono ?_; rintro e w2 ⟨rfl, rfl⟩)
          | fail)
        go_ret3
        exact ⟨_, rfl, RdI.nil _ _, hb⟩
      | true =>
        have HG1 := Lib.hid g0
        have hg : ¬ (tickB t = true ∧ bytesB n = true) := fun hh => hg (by rw [g0, hh.1, hh.2]; rfl)
        clear g0
        cases h3 : tickB t with
        | false =>
          clear hg
          go_enter Try.func45, Try.ntmps45
          go_wp2_with fail
          refine (rOver_any cs _ bs _ _ HR.out HU.out).mono ?_
          rintro e w1 ⟨r, rfl, hr, _, hb⟩
          obtain ⟨ra, rc, rfl⟩ := hr.form
          rw [HBK.out]
          clear hr
          go_wp2_with (first
            | (go_at_call 85; refine (rnodes_any _ _ _).mono ?_; rw [HG1.out]; rintro e w2 ⟨rfl, rfl⟩)
            | (go_at_call 71; refine (rtick_any _ _).mono ?_; rintro e w2 ⟨rfl, rfl⟩)
            | fail)
          go_ret3
          exact ⟨_, rfl, RdI.nil _ _, hb⟩
        | true =>
          have h4 : ¬ (1 ≤ n ∧ n ≤ 1099511627776) := fun hh => hg ⟨h3, by simpa [bytesB] using hh⟩
          clear hg
          by_cases h5 : n < 1
          · have d3 : decide (n < 1) = true := yb h5
            clear h4 h5
            go_enter Try.func45, Try.ntmps45
            go_wp2_with fail
            refine (rOver_any cs _ bs _ _ HR.out HU.out).mono ?_
            rintro e w1 ⟨r, rfl, hr, _, hb⟩
            obtain ⟨ra, rc, rfl⟩ := hr.form
            rw [HBK.out]
            clear hr
            go_wp2_with (first
              | (go_at_call 85; refine (rnodes_any _ _ _).mono ?_; rw [HG1.out]; rintro e w2 ⟨rfl, rfl⟩)
              | (go_at_call 71; refine (rtick_any _ _).mono ?_; rintro e w2 ⟨rfl, rfl⟩)
              | fail)
            go_ret3
            exact ⟨_, rfl, RdI.nil _ _, hb⟩
          · have d3 : decide (n < 1) = false := nb h5
            have d4 : decide (1099511627776 < n) = true := yb (by omega)
            clear h4 h5
            go_enter Try.func45, Try.ntmps45
            go_wp2_with fail
            refine (rOver_any cs _ bs _ _ HR.out HU.out).mono ?_
            rintro e w1 ⟨r, rfl, hr, _, hb⟩
            obtain ⟨ra, rc, rfl⟩ := hr.form
            rw [HBK.out]
            clear hr
            go_wp2_with (first
              | (go_at_call 85; refine (rnodes_any _ _ _).mono ?_; rw [HG1.out]; rintro e w2 ⟨rfl, rfl⟩)
              | (go_at_call 71; refine (rtick_any _ _).mono ?_; rintro e w2 ⟨rfl, rfl⟩)
              | fail)
            go_ret3
            exact ⟨_, rfl, RdI.nil _ _, hb⟩
  · unfold Crv at hv
    rw [if_pos hbk] at hv
    obtain ⟨rfl, rfl, he⟩ : out = [] ∧ fin = 0 ∧ bkE cs bs = er := by simp only [Prod.mk.injEq] at hv; exact ⟨hv.1.symm, hv.2.1.symm, hv.2.2⟩
    have HE := Lib.hid he
    rw [he] at hbk
    have d1 : (er != 0) = true := by simpa using hbk
    clear h hu hbk hv he
    go_enter Try.func45, Try.ntmps45
    go_wp2_with fail
    refine (rOver_any cs _ bs _ _ HR.out HU.out).mono ?_
    rintro e w1 ⟨r, rfl, hr, _, hb⟩
    obtain ⟨ra, rc, rfl⟩ := hr.form
    rw [HE.out]
    clear hr
    go_wp2_with fail
    go_ret3
    exact ⟨_, rfl, RdI.nil _ _, hb⟩
end Go.Proofs.Ytnbjdgjopdeolaa
