


/- Custody: the laws' examples: moves, runs, who holds; awake. -/
import Derived.Test.YtnkpjfogjkjcfaaHo
import Derived.Test.YtnkpjfogjkjcfaaBe2
namespace Go.Proofs.Ytnkpjfogjkjcfaa
open Go.RowKit
set_option linter.unusedSimpArgs false
set_option linter.unusedVariables false
set_option maxRecDepth 100000

theorem RdI.at {k : IntKind} {w : World} {a : Option Addr} {n c : Nat} {xs : List Int} (h : RdI k w (.slice a n c) xs) (hn : xs.length = n) (i : Nat) (hi : i < n) : ∃ b off, a = some ⟨b, off, none⟩ ∧ n ≤ c ∧ w.cell? ⟨b, off + i, none⟩ = some (.int k (xs.getD i 0)) := by
  obtain ⟨_, ⟨a', cap, hv, he⟩ | ⟨b, off, cap, hv, hc, hr⟩⟩ := h.cases
  · subst he; simp at hn; omega
  · simp only [Value.slice.injEq] at hv
    obtain ⟨rfl, h1, rfl⟩ := hv
    exact ⟨b, off, rfl, by omega, hr i (by omega)⟩
set_option maxHeartbeats 1000000 in
theorem sameInts_eq (v u : Value) (xs : List Int) (hl : xs.length ≤ 1000000) (w : World) (h : RdI .i64 w v xs) (hu : RdI .i64 w u xs) :
    Calls Try.prog 31 #[v, u] w fun e w' => e = .returned (.bool true) ∧ Below w.heap.size w w' := by
  obtain ⟨a0, n0, rfl⟩ := h.form
  obtain ⟨a1, n1, rfl⟩ := hu.form
  obtain ⟨N, hN⟩ : ∃ N, xs.length = N := ⟨_, rfl⟩
  rw [hN] at h hu hl ⊢
  have HR := Lib.hid h
  have HU := Lib.hid hu
  have HN := Lib.hid hN
  clear h hu hN
  have d0 : ((N : Int) != (N : Int)) = false := by simp
  go_enter Try.func31, Try.ntmps31
  go_wp2
  go_loopw [5] (fun i wr => ∃ k : Nat, k ≤ N ∧ i = .int .i64 k ∧ Below w.heap.size w wr) (fun i _ => N - (intOf i).toNat)
  case atStart => exact ⟨0, Nat.zero_le _, rfl, Below.refl _ _⟩
  case round =>
    obtain ⟨k, hk, rfl, hB⟩ := hrel
    by_cases hlt : k < N
    · have d2 : decide ((k : Int) < (N : Int)) = true := yb (by omega)
      obtain ⟨b1, o1, rfl, hc1, h1⟩ := HR.out.at HN.out k hlt
      obtain ⟨b2, o2, rfl, hc2, h2⟩ := HU.out.at HN.out k hlt
      have h1 := cell_later hB h1
      have h2 := cell_later hB h2
      obtain ⟨x, HX⟩ : ∃ x, Hid (xs.getD k 0 = x) := ⟨_, rfl⟩
      rw [HX.out] at h1 h2
      have hne : (x != x) = false := by simp
      have i1 : (0 : Int) ≤ (k : Int) := by omega
      have i2 : (k : Int) < (N : Int) := by omega
      have hwk : IntKind.i64.wrap (k : Int) = (k : Int) := IntWalk.i64_in _ (by omega)
      go_wp2_with fail
      go_quiet (fail)
      go_wp2_with fail
      go_roundw
      case rel => exact ⟨k + 1, by omega, by go_num, Below.next hB (below_drewN (Below.refl _ _) _)⟩
      case measure => simp [intOf]; omega
    · have d2 : decide ((k : Int) < (N : Int)) = false := nb (by omega)
      go_wp2_with fail
      go_ret
      exact ⟨rfl, hB⟩
theorem offer_any (a b : Int) (w : World) : Calls Try.prog 32 #[.int .i64 a, .int .i64 b] w fun e w' => e = .returned (.agg #[.int .i64 1, .int .i64 a, .int .i64 b, .int .i64 0]) ∧ Below w.heap.size w w' := by
  go_enter Try.func32, Try.ntmps32
  go_wp2_with fail
  exact bodyPost_ret (v := .agg #[.int .i64 1, .int .i64 a, .int .i64 b, .int .i64 0]) (by simp [results, Try.results32, go_sem, Mv.v, ofr, mk]) rfl ⟨rfl, (by repeat (first | assumption | exact Below.refl _ _ | apply Below.al | apply below_drewN | apply Below.drew | refine Below.next ?_ (by assumption)))⟩
theorem first_any (k : Int) (w : World) : Calls Try.prog 36 #[.int .i64 k] w fun e w' => e = .returned (.agg #[.int .i64 k, .int .i64 0, .int .i64 0, .int .i64 0]) ∧ Below w.heap.size w w' := by
  go_enter Try.func36, Try.ntmps36
  go_wp2_with fail
  exact bodyPost_ret (v := .agg #[.int .i64 k, .int .i64 0, .int .i64 0, .int .i64 0]) (by simp [results, Try.results36, go_sem, Mv.v, ofr, mk]) rfl ⟨rfl, (by repeat (first | assumption | exact Below.refl _ _ | apply Below.al | apply below_drewN | apply Below.drew | refine Below.next ?_ (by assumption)))⟩
theorem beg_tgb (n d o : Int) : TgB 0 (begW n d o) := by
  intro c hc
  rcases List.mem_or_eq_of_mem_set hc with hc | rfl
  · have := (List.mem_replicate.1 hc).2
    subst this
    exact ⟨Nat.le_refl _, Nat.le_refl _⟩
  · exact ⟨Nat.le_refl _, Nat.le_refl _⟩
theorem beg_331 : begE 3 3 1 = 0 ∧ Okw (begW 3 3 1) := by decide

set_option maxHeartbeats 1000000 in
theorem lrun_any (w : World) (mv : Value) (l : List Mv) (X : Wd) (hl : l.length ≤ 50000) (hm : RdL mvR w mv l) (hr : runW (begW 3 3 1) l 0 = (X, l.length, 0)) :
    Calls Try.prog 37 #[mv] w fun e w' => ∃ u, e = .returned (.tuple #[u, .bool true]) ∧ RdF w' w.heap.size u X ∧ Below w.heap.size w w' := by
  obtain ⟨ma, mc, rfl⟩ := hm.form
  obtain ⟨L, hL⟩ : ∃ L, l.length = L := ⟨_, rfl⟩
  rw [hL] at hm hl hr ⊢
  have HL := Lib.hid hL
  have HM := Lib.hid hm
  have hru : ruW (begW 3 3 1) l = (X, L, 0) := by unfold ruW; rw [if_pos beg_331.2]; exact hr
  have HRU := Lib.hid hru
  clear hL hm hr hru
  obtain ⟨W, hW⟩ : ∃ W : World, W = w.alloc (.cells #[.int .i64 0, .slice none 0 0, .slice none 0 0] 25) := ⟨_, rfl⟩
  have hB0 : Below w.heap.size w W := by rw [hW]; exact (by repeat (first | assumption | exact Below.refl _ _ | apply Below.al | apply below_drewN | apply Below.drew | refine Below.next ?_ (by assumption)))
  have hzw : w.heap.size < W.heap.size := by rw [hW]; simp
  have bT : BoxN W w.heap.size 25 #[.int .i64 0, .slice none 0 0, .slice none 0 0] := by rw [hW]; exact BoxN.new _ _ _
  have HBT := Lib.hid bT
  have HBG := Lib.hid (begin_ok W 3 3 1 beg_331.1)
  obtain ⟨X0, HX0⟩ : ∃ X0, Hid (begW 3 3 1 = X0) := ⟨_, Lib.hid rfl⟩
  have HOK := Lib.hid beg_331.2
  have htg := beg_tgb 3 3 1
  have hb2 : Calls Try.prog 19 #[.int .i64 3, .int .i64 3, .int .i64 1] W (MvR W X0 0) := by rw [← HX0.out]; exact HBG.out
  rw [HX0.out] at htg
  have HRU2 : Hid (ruW X0 l = (X, L, 0)) := Lib.hid (by rw [← HX0.out]; exact HRU.out)
  have HTG := Lib.hid htg
  have HB2 := Lib.hid hb2
  clear bT htg hb2 HBG HRU
  go_enter Try.func37, Try.ntmps37
  go_upto_region 1 with fail
  rw [← hW]
  clear hW
  go_wp2_with fail
  refine HB2.out.mono ?_
  rintro e w1 ⟨u, rfl, hb1, hu⟩
  obtain ⟨cv1, fv1, q1, rfl, hp1⟩ := hu
  obtain ⟨a1, c1, rfl⟩ := hp1.pt.rows.form
  obtain ⟨fa1, fc1, rfl⟩ := hp1.pt.frs.form
  obtain ⟨W2, hW2⟩ : ∃ W2 : World, W2 = w1.alloc (.cells #[.int .i64 X0.ds, .slice a1 q1.length c1, .slice fa1 X0.fr.length fc1] 25) := ⟨_, rfl⟩
  have hb2 : Below w1.heap.size w1 W2 := by rw [hW2]; exact (by repeat (first | assumption | exact Below.refl _ _ | apply Below.al | apply below_drewN | apply Below.drew | refine Below.next ?_ (by assumption)))
  have bx : BoxN W2 w1.heap.size 25 #[.int .i64 X0.ds, .slice a1 q1.length c1, .slice fa1 X0.fr.length fc1] := by rw [hW2]; exact BoxN.new _ _ _
  have hB2 := Below.next hb1 hb2
  have x0 : W2.cell? ⟨w1.heap.size, 0, none⟩ = some (.int .i64 X0.ds) := bx.cell 0
  have x1 : W2.cell? ⟨w1.heap.size, 1, none⟩ = some (.slice a1 q1.length c1) := bx.cell 1
  have x2 : W2.cell? ⟨w1.heap.size, 2, none⟩ = some (.slice fa1 X0.fr.length fc1) := bx.cell 2
  have hrun := run_any W2 (wV X0 (.slice a1 q1.length c1) (.slice fa1 X0.fr.length fc1)) (.slice ma L mc) X0 l 0 (by rw [HL.out]; omega) HTG.out ⟨_, _, _, rfl, hp1.pt.keep hb2⟩ (HM.out.keep (Below.next hB0 hB2))
  rw [HRU2.out] at hrun
  have HRUN := Lib.hid hrun
  have HBW2 := Lib.hid hB2
  have HW2 := Lib.hid hW2
  clear hp1 hb1 bx hrun hb2 hB2
  go_upto_region 2 with fail
  rw [← HW2.out]
  clear hW2 HW2
  go_wp2_with fail
  refine HRUN.out.mono ?_
  rintro e w3 ⟨u, rfl, hb3, hu⟩
  obtain ⟨cv3, fv3, q3, rfl, hp3⟩ := hu
  obtain ⟨a3, c3, rfl⟩ := hp3.pt.rows.form
  obtain ⟨fa3, fc3, rfl⟩ := hp3.pt.frs.form
  obtain ⟨W4, hW4⟩ : ∃ W4 : World, W4 = w3.alloc (.cells #[.int .i64 X.ds, .slice a3 q3.length c3, .slice fa3 X.fr.length fc3] 25) := ⟨_, rfl⟩
  have hb4 : Below w3.heap.size w3 W4 := by rw [hW4]; exact (by repeat (first | assumption | exact Below.refl _ _ | apply Below.al | apply below_drewN | apply Below.drew | refine Below.next ?_ (by assumption)))
  have bx : BoxN W4 w3.heap.size 25 #[.int .i64 X.ds, .slice a3 q3.length c3, .slice fa3 X.fr.length fc3] := by rw [hW4]; exact BoxN.new _ _ _
  have hB4 : Below W.heap.size W W4 := Below.next (Below.next HBW2.out hb3) hb4
  have e9 := HBT.out.below hB4
  have x0 : W4.cell? ⟨w3.heap.size, 0, none⟩ = some (.int .i64 X.ds) := bx.cell 0
  have x1 : W4.cell? ⟨w3.heap.size, 1, none⟩ = some (.slice a3 q3.length c3) := bx.cell 1
  have x2 : W4.cell? ⟨w3.heap.size, 2, none⟩ = some (.slice fa3 X.fr.length fc3) := bx.cell 2
  have t0 : W4.cell? ⟨w.heap.size, 0, none⟩ = some (.int .i64 0) := e9.cell 0
  have t1 : W4.cell? ⟨w.heap.size, 1, none⟩ = some (.slice none 0 0) := e9.cell 1
  have t2 : W4.cell? ⟨w.heap.size, 2, none⟩ = some (.slice none 0 0) := e9.cell 2
  have z0 := e9.frozen 0
  have z1 := e9.frozen 1
  have z2 := e9.frozen 2
  have HW4 := Lib.hid hW4
  have HB4 := Lib.hid (Below.next hB0 hB4)
  have HP := Lib.hid ((hp3.keep hb4).mono (by have := HBW2.out.size; omega : W.heap.size ≤ _))
  clear hp3 hb3 hb4 bx hB4 e9 hB0 x0 x1 x2
  have bx : BoxN W4 w3.heap.size 25 #[.int .i64 X.ds, .slice a3 q3.length c3, .slice fa3 X.fr.length fc3] := by rw [hW4]; exact BoxN.new _ _ _
  have x0 : W4.cell? ⟨w3.heap.size, 0, none⟩ = some (.int .i64 X.ds) := bx.cell 0
  have x1 : W4.cell? ⟨w3.heap.size, 1, none⟩ = some (.slice a3 q3.length c3) := bx.cell 1
  have x2 : W4.cell? ⟨w3.heap.size, 2, none⟩ = some (.slice fa3 X.fr.length fc3) := bx.cell 2
  have d1 : ((L : Int) == (L : Int)) = true := by simp
  clear bx
  go_upto_region 3 with fail
  rw [← HW4.out]
  clear hW4 HW4
  go_wp2_with fail
  refine bodyPost_ret (v := .tuple #[.agg #[.int .i64 X.ds, .slice a3 q3.length c3, .slice fa3 X.fr.length fc3], .bool true]) (by simp [results, Try.results37, go_sem, t0, t1, t2]) rfl ⟨_, rfl, ⟨_, _, q3, rfl, ?_⟩, ?_⟩
  · exact (((HP.out.set (p := ⟨w.heap.size, 0, none⟩) _ hzw).set (p := ⟨w.heap.size, 1, none⟩) _ hzw).set (p := ⟨w.heap.size, 2, none⟩) _ hzw).mono (by omega)
  · exact ((HB4.out.setCell (p := ⟨w.heap.size, 0, none⟩) (Nat.le_refl _) _).setCell (p := ⟨w.heap.size, 1, none⟩) (Nat.le_refl _) _).setCell (p := ⟨w.heap.size, 2, none⟩) (Nat.le_refl _) _
theorem holds_any (w : World) (v u : Value) (X : Wd) (xs : List Int) (ho : Okw X) (hx : hdsW X = xs) (hl : xs.length ≤ 100) (h : RdW w v X) (hu : RdI .i64 w u xs) :
    Calls Try.prog 38 #[v, u] w fun e w' => e = .returned (.bool true) ∧ Below w.heap.size w w' := by
  obtain ⟨cv, fv0, q, rfl, hp⟩ := h
  obtain ⟨a, c, rfl⟩ := hp.rows.form
  obtain ⟨fa, fc, rfl⟩ := hp.frs.form
  obtain ⟨ua, uc, rfl⟩ := hu.form
  obtain ⟨W, hW⟩ : ∃ W : World, W = w.alloc (.cells #[.int .i64 X.ds, .slice a q.length c, .slice fa X.fr.length fc] 25) := ⟨_, rfl⟩
  have hB0 : Below w.heap.size w W := by rw [hW]; exact (by repeat (first | assumption | exact Below.refl _ _ | apply Below.al | apply below_drewN | apply Below.drew | refine Below.next ?_ (by assumption)))
  have bX : BoxN W w.heap.size 25 #[.int .i64 X.ds, .slice a q.length c, .slice fa X.fr.length fc] := by rw [hW]; exact BoxN.new _ _ _
  have hh := holders_any W _ X (⟨_, _, _, rfl, hp.keep hB0⟩ : RdW W (wV X (.slice a q.length c) (.slice fa X.fr.length fc)) X)
  rw [if_pos ho, hx, show chkE X = 0 by unfold chkE; exact if_pos ho] at hh
  have HH := Lib.hid hh
  have HU := Lib.hid (hu.keep hB0)
  have HB0 := Lib.hid hB0
  have x0 : W.cell? ⟨w.heap.size, 0, none⟩ = some (.int .i64 X.ds) := bX.cell 0
  have x1 : W.cell? ⟨w.heap.size, 1, none⟩ = some (.slice a q.length c) := bX.cell 1
  have x2 : W.cell? ⟨w.heap.size, 2, none⟩ = some (.slice fa X.fr.length fc) := bX.cell 2
  clear bX hp hh hu hx ho hB0
  go_enter Try.func38, Try.ntmps38
  go_upto_region 1 with fail
  rw [← hW]
  clear hW
  go_wp2_with fail
  refine HH.out.mono ?_
  rintro e w1 ⟨s, rfl, hs, hf, hb1⟩
  have HSI := Lib.hid (sameInts_eq _ _ xs (by omega) w1 hs (HU.out.keep hb1))
  have HB1 := Lib.hid (Below.next HB0.out hb1)
  clear hs hf hb1
  go_wp2_with fail
  refine HSI.out.mono ?_
  rintro e w2 ⟨rfl, hb2⟩
  have hB2 := Below.next HB1.out hb2
  clear hb2
  go_wp2_with fail
  go_ret
  exact ⟨rfl, hB2⟩
/-- an example's run, and who holds then -/
def exOK (l : List Mv) (xs : List Int) : Prop := (runW (begW 3 3 1) l 0).2.1 = l.length ∧ (runW (begW 3 3 1) l 0).2.2 = 0 ∧ Okw (runW (begW 3 3 1) l 0).1 ∧ hdsW (runW (begW 3 3 1) l 0).1 = xs
instance (l : List Mv) (xs : List Int) : Decidable (exOK l xs) := by unfold exOK; infer_instance
theorem exOK.run {l : List Mv} {xs : List Int} (h : exOK l xs) : ∃ X, runW (begW 3 3 1) l 0 = (X, l.length, 0) ∧ Okw X ∧ hdsW X = xs := by
  obtain ⟨h1, h2, h3, h4⟩ := h
  exact ⟨_, by rw [← h1, ← h2], h3, h4⟩
theorem ex_a : exOK [ofr 1 2] [1] := by decide +kernel
theorem ex_b : exOK [ofr 1 2, mk 2] [1, 2] := by decide +kernel
theorem ex_c : exOK [ofr 1 2, mk 2, mk 2] [2] := by decide +kernel
theorem rdi_lit (W : World) (T : TypeId) (xs : List Int) (hl : xs.length ≤ 1000) : RdI .i64 (W.alloc (.cells (ic .i64 xs).toArray T)) (.slice (some ⟨W.heap.size, 0, none⟩) xs.length xs.length) xs := by
  refine ⟨by rw [ic_length, Nat.mul_one], by unfold maxLen; omega, .inr ⟨W.heap.size, 0, xs.length, rfl, Nat.le_refl _, fun j u hj => ?_⟩⟩
  rw [Nat.zero_add]
  have := (BoxN.new W T (ic .i64 xs).toArray).cell j
  rw [this]
  simpa using hj
theorem rdm_lit (W : World) (l : List Mv) (n : Nat) (hn : l.length = n) (hm : n ≤ 1000) : RdL mvR (W.alloc (.cells (rcs mvR l).toArray 40)) (.slice (some ⟨W.heap.size, 0, none⟩) n n) l :=
  rdl_lit mvR W _ l n hn hm (fun j u hj => by
    have := (BoxN.new W 40 (rcs mvR l).toArray).cell j
    rw [this]
    simpa using hj)
/-- a run of an example, its moves just laid in memory: what it leaves -/
theorem lrun_lit (W : World) (l : List Mv) (n : Nat) (xs : List Int) (hn : l.length = n) (hm : n ≤ 1000) (h : exOK l xs) :
    Calls Try.prog 37 #[.slice (some ⟨W.heap.size, 0, none⟩) n n] (W.alloc (.cells (rcs mvR l).toArray 40)) fun e w' => ∃ X a c fa fc q, e = .returned (.tuple #[.agg #[.int .i64 X.ds, .slice a q.length c, .slice fa X.fr.length fc], .bool true]) ∧ Okw X ∧ hdsW X = xs ∧ PtW w' (.slice a q.length c) (.slice fa X.fr.length fc) q X ∧ Below W.heap.size W w' ∧ Hid (X = (runW (begW 3 3 1) l 0).1) := by
  subst hn
  obtain ⟨X, hr, ho, hx⟩ := h.run
  refine (lrun_any _ _ l X (by omega) (rdm_lit W l _ rfl hm) hr).mono ?_
  rintro e w' ⟨u, rfl, hu, hb⟩
  obtain ⟨cv, fv, q, rfl, hp⟩ := hu
  obtain ⟨a, c, rfl⟩ := hp.pt.rows.form
  obtain ⟨fa, fc, rfl⟩ := hp.pt.frs.form
  exact ⟨X, a, c, fa, fc, q, rfl, ho, hx, hp.pt, Below.next (Below.al (Below.refl _ _) _) hb, Lib.hid (by rw [hr])⟩
set_option maxHeartbeats 1000000 in
theorem awake_any (w : World) : Calls Try.prog 13 #[] w fun e w' => e = .returned (.bool true) ∧ Below w.heap.size w w' := by
  go_enter Try.func13, Try.ntmps13
  go_wp2_with fail
  refine (offer_any 1 2 w).mono ?_
  rintro e w1 ⟨rfl, hb1⟩
  have HRA := Lib.hid (lrun_lit w1 [ofr 1 2] 1 _ rfl (by decide) ex_a)
  go_wp2_with fail
  refine HRA.out.mono ?_
  rintro e w2 ⟨XA, aA, cA, faA, fcA, qA, rfl, hoA, hxA, hpA, hbA, heA⟩
  have HOA := Lib.hid hoA
  have HXA := Lib.hid hxA
  have HPA := Lib.hid hpA
  clear hoA hxA hpA HRA
  obtain ⟨W2, HNA⟩ : ∃ V : World, Hid (V = (w2).alloc (.cells #[.int .i64 XA.ds, .slice aA qA.length cA, .slice faA XA.fr.length fcA] 25)) := ⟨_, Lib.hid rfl⟩
  go_upto_region 2 with fail
  rw [← HNA.out]
  have hbnA : Below (w2).heap.size w2 W2 := by rw [HNA.out]; exact (by repeat (first | assumption | exact Below.refl _ _ | apply Below.al | apply below_drewN | apply Below.drew | refine Below.next ?_ (by assumption)))
  have bxA : BoxN W2 (w2).heap.size 25 #[.int .i64 XA.ds, .slice aA qA.length cA, .slice faA XA.fr.length fcA] := by rw [HNA.out]; exact BoxN.new _ _ _
  have HBXA := Lib.hid bxA
  replace HPA := Lib.hid (HPA.out.keep hbnA)
  obtain ⟨pA, HPNA⟩ : ∃ p, Hid ((w2).heap.size = p) := ⟨_, Lib.hid rfl⟩
  rw [HPNA.out] at HBXA ⊢
  clear bxA HNA
  have HB2 := Lib.hid (Below.next (Below.next hb1 hbA) hbnA)
  clear hb1 hbA hbnA
  go_wp2_with fail
  refine (offer_any 1 2 W2).mono ?_
  rintro e w3 ⟨rfl, hb3⟩
  go_wp2_with fail
  refine (first_any 2 w3).mono ?_
  rintro e w4 ⟨rfl, hb4⟩
  have HRB := Lib.hid (lrun_lit w4 [ofr 1 2, mk 2] 2 _ rfl (by decide) ex_b)
  go_wp2_with fail
  refine HRB.out.mono ?_
  rintro e w5 ⟨XB, aB, cB, faB, fcB, qB, rfl, hoB, hxB, hpB, hbB, heB⟩
  have HOB := Lib.hid hoB
  have HXB := Lib.hid hxB
  have HPB := Lib.hid hpB
  clear hoB hxB hpB HRB
  obtain ⟨W5, HNB⟩ : ∃ V : World, Hid (V = (w5).alloc (.cells #[.int .i64 XB.ds, .slice aB qB.length cB, .slice faB XB.fr.length fcB] 25)) := ⟨_, Lib.hid rfl⟩
  go_upto_region 3 with fail
  rw [← HNB.out]
  have hbnB : Below (w5).heap.size w5 W5 := by rw [HNB.out]; exact (by repeat (first | assumption | exact Below.refl _ _ | apply Below.al | apply below_drewN | apply Below.drew | refine Below.next ?_ (by assumption)))
  have bxB : BoxN W5 (w5).heap.size 25 #[.int .i64 XB.ds, .slice aB qB.length cB, .slice faB XB.fr.length fcB] := by rw [HNB.out]; exact BoxN.new _ _ _
  have HBXB := Lib.hid bxB
  replace HPB := Lib.hid (HPB.out.keep hbnB)
  obtain ⟨pB, HPNB⟩ : ∃ p, Hid ((w5).heap.size = p) := ⟨_, Lib.hid rfl⟩
  rw [HPNB.out] at HBXB ⊢
  clear bxB HNB
  have h25 := Below.next (Below.next (Below.next hb3 hb4) hbB) hbnB
  replace HPA := Lib.hid (HPA.out.keep h25)
  replace HBXA := Lib.hid (HBXA.out.below h25)
  replace HB2 := Lib.hid (Below.next HB2.out h25)
  clear hb3 hb4 hbB hbnB h25
  go_wp2_with fail
  refine (offer_any 1 2 W5).mono ?_
  rintro e w6 ⟨rfl, hb6⟩
  go_wp2_with fail
  refine (first_any 2 w6).mono ?_
  rintro e w7 ⟨rfl, hb7⟩
  go_wp2_with fail
  refine (first_any 2 w7).mono ?_
  rintro e w8 ⟨rfl, hb8⟩
  have HRC := Lib.hid (lrun_lit w8 [ofr 1 2, mk 2, mk 2] 3 _ rfl (by decide) ex_c)
  go_wp2_with fail
  refine HRC.out.mono ?_
  rintro e w9 ⟨XC, aC, cC, faC, fcC, qC, rfl, hoC, hxC, hpC, hbC, heC⟩
  have HOC := Lib.hid hoC
  have HXC := Lib.hid hxC
  have HPC := Lib.hid hpC
  clear hoC hxC hpC HRC
  obtain ⟨W9, HNC⟩ : ∃ V : World, Hid (V = (w9).alloc (.cells #[.int .i64 XC.ds, .slice aC qC.length cC, .slice faC XC.fr.length fcC] 25)) := ⟨_, Lib.hid rfl⟩
  go_upto_region 4 with fail
  rw [← HNC.out]
  have hbnC : Below (w9).heap.size w9 W9 := by rw [HNC.out]; exact (by repeat (first | assumption | exact Below.refl _ _ | apply Below.al | apply below_drewN | apply Below.drew | refine Below.next ?_ (by assumption)))
  have bxC : BoxN W9 (w9).heap.size 25 #[.int .i64 XC.ds, .slice aC qC.length cC, .slice faC XC.fr.length fcC] := by rw [HNC.out]; exact BoxN.new _ _ _
  have HBXC := Lib.hid bxC
  replace HPC := Lib.hid (HPC.out.keep hbnC)
  obtain ⟨pC, HPNC⟩ : ∃ p, Hid ((w9).heap.size = p) := ⟨_, Lib.hid rfl⟩
  rw [HPNC.out] at HBXC ⊢
  clear bxC HNC
  have h59 := Below.next (Below.next (Below.next (Below.next hb6 hb7) hb8) hbC) hbnC
  replace HPA := Lib.hid (HPA.out.keep h59)
  replace HPB := Lib.hid (HPB.out.keep h59)
  replace HBXA := Lib.hid (HBXA.out.below h59)
  replace HBXB := Lib.hid (HBXB.out.below h59)
  replace HB2 := Lib.hid (Below.next HB2.out h59)
  clear hb6 hb7 hb8 hbC hbnC h59
  have a0 : W9.cell? ⟨pA, 0, none⟩ = some (.int .i64 XA.ds) := HBXA.out.cell 0
  have a1 : W9.cell? ⟨pA, 1, none⟩ = some (.slice aA qA.length cA) := HBXA.out.cell 1
  have a2 : W9.cell? ⟨pA, 2, none⟩ = some (.slice faA XA.fr.length fcA) := HBXA.out.cell 2
  have halA : Below (W9).heap.size W9 (World.alloc W9 (.cells (ic .i64 [1]).toArray 3)) := Below.al (Below.refl _ _) _
  have HHA := Lib.hid (holds_any (World.alloc W9 (.cells (ic .i64 [1]).toArray 3)) (wV XA (.slice aA qA.length cA) (.slice faA XA.fr.length fcA)) (.slice (some ⟨(W9).heap.size, 0, none⟩) ([1]).length ([1]).length) XA [1] HOA.out HXA.out (by decide) ⟨_, _, _, rfl, HPA.out.keep halA⟩ (rdi_lit W9 3 [1] (by decide)))
  clear halA
  go_wp2_with fail
  refine HHA.out.mono ?_
  rintro e wa ⟨rfl, hbA⟩
  replace hbA : Below (W9).heap.size W9 wa := Below.next (Below.al (Below.refl _ _) _) hbA
  clear HHA
  replace HPB := Lib.hid (HPB.out.keep hbA)
  replace HPC := Lib.hid (HPC.out.keep hbA)
  have b3 := HBXB.out.below hbA
  have c3 := HBXC.out.below hbA
  have b0 : wa.cell? ⟨pB, 0, none⟩ = some (.int .i64 XB.ds) := b3.cell 0
  have b1 : wa.cell? ⟨pB, 1, none⟩ = some (.slice aB qB.length cB) := b3.cell 1
  have b2 : wa.cell? ⟨pB, 2, none⟩ = some (.slice faB XB.fr.length fcB) := b3.cell 2
  replace HB2 := Lib.hid (Below.next HB2.out hbA)
  clear a0 a1 a2 hbA b3
  have halB : Below (wa).heap.size wa (World.alloc wa (.cells (ic .i64 [1, 2]).toArray 3)) := Below.al (Below.refl _ _) _
  have HHB := Lib.hid (holds_any (World.alloc wa (.cells (ic .i64 [1, 2]).toArray 3)) (wV XB (.slice aB qB.length cB) (.slice faB XB.fr.length fcB)) (.slice (some ⟨(wa).heap.size, 0, none⟩) ([1, 2]).length ([1, 2]).length) XB [1, 2] HOB.out HXB.out (by decide) ⟨_, _, _, rfl, HPB.out.keep halB⟩ (rdi_lit wa 3 [1, 2] (by decide)))
  clear halB
  go_wp2_with fail
  refine HHB.out.mono ?_
  rintro e wb ⟨rfl, hbB⟩
  replace hbB : Below (wa).heap.size wa wb := Below.next (Below.al (Below.refl _ _) _) hbB
  clear HHB
  replace HPC := Lib.hid (HPC.out.keep hbB)
  replace c3 := c3.below hbB
  have c0 : wb.cell? ⟨pC, 0, none⟩ = some (.int .i64 XC.ds) := c3.cell 0
  have c1 : wb.cell? ⟨pC, 1, none⟩ = some (.slice aC qC.length cC) := c3.cell 1
  have c2 : wb.cell? ⟨pC, 2, none⟩ = some (.slice faC XC.fr.length fcC) := c3.cell 2
  replace HB2 := Lib.hid (Below.next HB2.out hbB)
  clear b0 b1 b2 hbB c3
  have halC : Below (wb).heap.size wb (World.alloc wb (.cells (ic .i64 [2]).toArray 3)) := Below.al (Below.refl _ _) _
  have HHC := Lib.hid (holds_any (World.alloc wb (.cells (ic .i64 [2]).toArray 3)) (wV XC (.slice aC qC.length cC) (.slice faC XC.fr.length fcC)) (.slice (some ⟨(wb).heap.size, 0, none⟩) ([2]).length ([2]).length) XC [2] HOC.out HXC.out (by decide) ⟨_, _, _, rfl, HPC.out.keep halC⟩ (rdi_lit wb 3 [2] (by decide)))
  clear halC
  go_wp2_with fail
  refine HHC.out.mono ?_
  rintro e wc ⟨rfl, hbC⟩
  replace hbC : Below (wb).heap.size wb wc := Below.next (Below.al (Below.refl _ _) _) hbC
  clear HHC
  replace HB2 := Lib.hid (Below.next HB2.out hbC)
  clear hbC c0 c1 c2
  go_wp2_with fail
  go_ret
  exact ⟨rfl, HB2.out⟩
end Go.Proofs.Ytnkpjfogjkjcfaa
