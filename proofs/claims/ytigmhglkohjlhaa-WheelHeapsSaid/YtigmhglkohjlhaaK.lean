


/- Timers: the reference takes one out. -/
import Derived.Test.YtigmhglkohjlhaaJ
namespace Go.Proofs.Ytigmhglkohjlhaa
open Go.RowKit
set_option linter.unusedSimpArgs false
set_option linter.unusedVariables false
set_option maxRecDepth 100000

/-- the least of j and those below it, after so many of them -/
def lst (l : List Tm) (j : Nat) : Nat → Nat
  | 0 => j
  | s + 1 => if 2 * j + 1 + s < l.length ∧ ltT (g l (2 * j + 1 + s)) (g l (lst l j s)) then 2 * j + 1 + s else lst l j s
theorem lst_two (l : List Tm) (j : Nat) : lst l j 2 = if 2 * j + 1 < l.length ∧ ltT (g l (kid l j)) (g l j) then kid l j else j := by
  show (if 2 * j + 2 < l.length ∧ ltT (g l (2 * j + 2)) (g l (if 2 * j + 1 < l.length ∧ ltT (g l (2 * j + 1)) (g l j) then 2 * j + 1 else j)) then 2 * j + 2 else (if 2 * j + 1 < l.length ∧ ltT (g l (2 * j + 1)) (g l j) then 2 * j + 1 else j)) = _
  unfold kid
  by_cases h1 : 2 * j + 1 < l.length
  · by_cases h2 : 2 * j + 2 < l.length
    · by_cases a : ltT (g l (2 * j + 1)) (g l j)
      · by_cases b : ltT (g l (2 * j + 2)) (g l (2 * j + 1))
        · have c := lt_tr b a
          simp only [h1, h2, a, b, c, and_self, if_true]
        · simp only [h1, h2, a, b, and_self, and_false, if_true, if_false]
      · by_cases b : ltT (g l (2 * j + 2)) (g l (2 * j + 1))
        · by_cases c : ltT (g l (2 * j + 2)) (g l j)
          · simp only [h1, h2, a, b, c, and_self, and_false, if_true, if_false]
          · simp only [h1, h2, a, b, c, and_self, and_false, if_true, if_false]
        · have c := le_tr a b
          simp only [h1, h2, a, b, c, and_self, and_false, if_true, if_false]
    · simp only [h2, false_and, if_false]
  · have h2 : ¬ 2 * j + 2 < l.length := by omega
    simp only [h1, h2, false_and, if_false]
theorem lst_lt {l : List Tm} {j : Nat} (hj : j < l.length) : ∀ s, lst l j s < l.length := by
  intro s
  induction s with
  | zero => exact hj
  | succ s ih =>
    unfold lst
    split
    · rename_i h; exact h.1
    · exact ih
/-- a row of one's own, without its last -/
theorem OwM.cut {w : World} {base n c q : Nat} {l : List Tm} (h : w.ownsRow base 41 5 (.slice (some ⟨q, 0, none⟩) n c) n (rcs tmR l)) (m : Nat) (hm : m ≤ n) :
    w.ownsRow base 41 5 (.slice (some ⟨q, 0, none⟩) m c) m (rcs tmR (l.take m)) := by
  obtain ⟨hl, h2⟩ := h
  rw [rcs_length] at hl
  have hl : l.length = n := by have : tmR.size = 5 := rfl; rw [this] at hl; omega
  refine ⟨by rw [rcs_length, List.length_take]; show min m l.length * 5 = m * 5; rw [hl, Nat.min_eq_left hm], ?_⟩
  rcases h2 with ⟨h0, _⟩ | ⟨g, cap, cur, hv, hg, hh, hc, hx, hs, ht⟩
  · simp at h0
  · simp only [Value.slice.injEq, Option.some.injEq] at hv
    obtain ⟨h1, h2, h3⟩ := hv
    have e := rcs_take tmR l m
    refine .inr ⟨g, cap, cur, by rw [h1, h3], hg, hh, by omega, hx, hs, ?_⟩
    rw [← e, ← ht, List.take_take, Nat.min_eq_left (show m * tmR.size ≤ n * 5 from Nat.mul_le_mul_right 5 hm)]
    rfl
theorem slice_hi (q N c m : Nat) (hm : m ≤ N) (hc : N ≤ c) (h0 : 0 < c) (T : TypeId) (hT : T = 22 ∨ T = 53) (w : World) :
    (Instr.slice T (.slice (some ⟨q, 0, none⟩) N c) none (some (.int .i64 (m : Int))) none).run Try.prog w = .ok (.slice (some ⟨q, 0, none⟩) m c) w := by
  have hs5 : ∀ w : World, (sizeOf (Try.prog.elem T)).run Try.prog w = .ok 5 w := fun w => by rcases hT with rfl | rfl <;> kernel_rfl
  have hun : Try.prog.underlying T = some (.slice (Try.prog.elem T)) := by rcases hT with rfl | rfl <;> kernel_rfl
  rw [run_slice_h _ _ _ _ _ hun _ _ (by omega) (by omega), hs5]
  show Result.ok (sliced (some ⟨q, 0, none⟩) 0 (m : Int).toNat c 5) w = _
  rw [Int.toNat_natCast]
  unfold sliced
  rw [if_neg (by omega)]
  simp [Addr.add]
set_option maxHeartbeats 8000000 in
theorem rout_any (v : Value) (l : List Tm) (i : Nat) (hl : l.length ≤ 100000) (hi : i < l.length) (w : World) (h : RdM w v l) : Calls Try.prog 45 #[v, .int .i64 (i : Int)] w (OM w (outL l i)) := by
  have hrd0 : RdS (w.alloc (.cells #[] 41)) 5 v l.length (rcs tmR l) := h.keep (by repeat (first | assumption | exact Below.refl _ _ | apply Below.al | apply below_drewN | apply Below.drew | refine Below.next ?_ (by assumption)))
  have hown0 : (w.alloc (.cells #[] 41)).ownsRow w.heap.size 41 5 (.slice (some ⟨w.heap.size, 0, none⟩) 0 0) 0 [] := owns_block _ _ 41 5 0 [] _ (Nat.le_refl _) (heap_last w _) rfl (by decide)
  obtain ⟨N, hN⟩ : ∃ N, l.length = N := ⟨_, rfl⟩
  obtain ⟨M, hM⟩ : ∃ M, N - 1 = M := ⟨_, rfl⟩
  rw [hN] at hl hrd0 hi
  have HOL : Hid ((outL l i).length = M) := by unfold Hid; rw [out_len, hN, hM]
  have HN := Lib.hid hN
  have HRD := Lib.hid hrd0
  have hNM : N = M + 1 := by omega
  subst hNM
  clear hN h hrd0 hM
  go_enter Try.func45, Try.ntmps45
  go_upto_region 2 with (at_builtin; refine wpList_app rfl (.tmp 9) (.tmp 10) 22 rfl w.heap.size 41 _ 5 40 ETm _ 0 [] rfl hown0 _ (M + 1) (rcs tmR l) rfl HRD.out (rcs_one _ _) ?c1 ?c2 ?c3 ?c4)
  case c1 => unfold maxLen; omega
  case c2 => omega
  case c3 => simp
  case c4 =>
    intro a3 c w3 hown3 hg3 hb3
    have hown3 : w3.ownsRow w.heap.size 41 5 (.slice a3 (M + 1) c) (M + 1) (rcs tmR l) := by first | with_reducible exact hown3 | simpa using hown3
    have hB : Below w.heap.size w w3 := Below.trans (Below.al (Below.refl _ _) _) hb3
    obtain ⟨q, rfl, hq1, hq2⟩ := OwM.addr hown3 (by omega)
    have HO := Lib.hid hown3
    clear hown3 hown0 hg3 hb3
    have hcap : M + 1 ≤ c := by
      rcases HO.out.2 with ⟨h0, _⟩ | ⟨g, cap, cur, hv, _, _, hc, _⟩
      · simp at h0
      · simp only [Value.slice.injEq] at hv; omega
    obtain ⟨b0, b1, b2, b3, b4⟩ := OwM.at HO.out HN.out M (by omega)
    obtain ⟨u, HU⟩ : ∃ u, Hid (g l M = u) := ⟨_, rfl⟩
    rw [HU.out] at b0 b1 b2 b3 b4
    have hw1 : IntKind.i64.wrap ((M : Int) + 1 - 1) = (M : Int) := by rw [show (M : Int) + 1 - 1 = (M : Int) by omega]; exact IntWalk.i64_in _ (by omega)
    have hwM : IntKind.i64.wrap (M : Int) = (M : Int) := IntWalk.i64_in _ (by omega)
    have hwi : IntKind.i64.wrap (i : Int) = (i : Int) := IntWalk.i64_in _ (by omega)
    have i1 : (0 : Int) ≤ (i : Int) := by omega
    have i2 : (i : Int) < (M : Int) + 1 := by omega
    have j1 : (0 : Int) ≤ (M : Int) := by omega
    have j2 : (M : Int) < (M : Int) + 1 := by omega
    go_upto_region 4 with (with_reducible refine wpList_store_tm rfl (.tmp 21) (.tmp 20) rfl q (i * 5) u rfl rfl (OwM.there HO.out HN.out i hi) ?_)
    obtain ⟨W2, hW2⟩ : ∃ W2 : World, W2 = w3.setCells q (i * 5) (Tm.cs u) := ⟨_, rfl⟩
    have hK2 : Kx (fun k => k = q) w3 W2 := by rw [hW2]; exact Kx.setCells (X := fun k => k = q) (Kx.refl _ _) (.inl rfl) _ _
    have hbt : ∀ k, (fun k => k = q) k → w.heap.size ≤ k := fun k hk => by have hk : k = q := hk; omega
    have hB2 : Below w.heap.size w W2 := hB.trans (hK2.below hB.size hbt)
    obtain ⟨C, hC⟩ : ∃ C, cutL l i = C := ⟨_, rfl⟩
    have HCL : Hid (C.length = M) := by unfold Hid; rw [← hC, cut_len, HN.out]; omega
    have HO2 := Lib.hid (show W2.ownsRow w.heap.size 41 5 (.slice (some ⟨q, 0, none⟩) M c) M (rcs tmR C) by
      rw [← hC, hW2]
      have := OwM.cut (l := l.set i u) (OwM.set HO.out HN.out i hi u) M (by omega)
      unfold cutL
      rw [HN.out, show M + 1 - 1 = M from rfl, HU.out]
      exact this)
    have HCC := Lib.hid hC
    have hsl := slice_hi q (M + 1) c M (by omega) hcap (by omega) 22 (.inl rfl)
    rw [← hW2]
    clear hW2 hK2 b0 b1 b2 b3 b4 HO HU hB HRD hC
    have HOE : Hid (outL l i = if i = M then C else if (up C i).2 ≠ i then (up C i).1 else (dn C i).1) := by unfold Hid outL; rw [HN.out, HCC.out]; rfl
    by_cases him : i = M
    · have d0 : ((i : Int) == (M : Int)) = true := by simp [him]
      have HX : Hid (outL l i = C) := by unfold Hid; rw [HOE.out, if_pos him]
      clear him
      go_wp2_with fail
      go_ret
      exact ⟨some ⟨q, 0, none⟩, c, by rw [HOL.out]; rfl, by rw [HOL.out, HX.out]; exact HO2.out, hB2⟩
    · have d0 : ((i : Int) == (M : Int)) = false := by simpa using (by omega : ¬ (i : Int) = (M : Int))
      have hiM : i < M := by omega
      obtain ⟨r, m, hr⟩ : ∃ r m, up C i = (r, m) := ⟨_, _, rfl⟩
      have HUP := Lib.hid hr
      have HOE : Hid (outL l i = if m ≠ i then r else (dn C i).1) := by unfold Hid; rw [HOE.out, if_neg him, hr]
      clear him hr
      go_wp2_with fail
      refine (rup_any w.heap.size M c q C i r m HUP.out HCL.out hiM (by omega) _ HO2.out).mono ?_
      rintro e w4 ⟨rfl, ho4, hk4⟩
      have hB4 : Below w.heap.size w w4 := hB2.trans (hk4.below hB2.size hbt)
      have HO4 := Lib.hid ho4
      have hum := up_moved i C
      rw [HUP.out] at hum
      have hum2 := hum.2
      clear ho4 hk4 hum
      by_cases hm : m = i
      · have d1 : ((m : Int) != (i : Int)) = false := by simp [hm]
        have HDN : Hid (outL l i = (dn C i).1) := by unfold Hid; rw [HOE.out, if_neg (fun h => h hm)]
        have HO4 := Lib.hid (show w4.ownsRow w.heap.size 41 5 (.slice (some ⟨q, 0, none⟩) M c) M (rcs tmR C) by rw [← hum2 hm]; exact HO4.out)
        obtain ⟨R, hR⟩ : ∃ R, outL l i = R := ⟨_, rfl⟩
        have HDR : Hid ((dn C i).1 = R) := by unfold Hid; rw [← HDN.out]; exact hR
        have HRL : Hid (R.length = M) := by unfold Hid; rw [← hR]; exact HOL.out
        have HRO := Lib.hid hR
        clear hm hum2 HDN hR HUP HO2 HOE hsl
        go_wp2_with fail
        go_loopw [1] (fun i wr => ∃ (j : Nat) (l' : List Tm), j < M ∧ i = .int .i64 j ∧ l'.length = M ∧ (dn l' j).1 = R ∧ wr.ownsRow w.heap.size 41 5 (.slice (some ⟨q, 0, none⟩) M c) M (rcs tmR l') ∧ Below w.heap.size w wr) (fun i _ => M - (intOf i).toNat)
        case atStart => exact ⟨i, C, hiM, rfl, HCL.out, HDR.out, HO4.out, hB4⟩
        case round =>
          clear HO4 hB4 hB2 HCC HCL HDR hwi i1 i2
          obtain ⟨j, l', hj, rfl, hl', hd, ho, hBr⟩ := hrel
          have HL := Lib.hid hl'
          have HD := Lib.hid hd
          have HO := Lib.hid ho
          have hw2 : IntKind.i64.wrap (2 * (j : Int)) = 2 * (j : Int) := IntWalk.i64_in _ (by omega)
          have hw3 : IntKind.i64.wrap (2 * (j : Int) + 1) = 2 * (j : Int) + 1 := IntWalk.i64_in _ (by omega)
          have hw4 : IntKind.i64.wrap (2 * (j : Int) + 2) = 2 * (j : Int) + 2 := IntWalk.i64_in _ (by omega)
          clear hl' hd ho
          go_wp2_with fail
          rename World => wr
          go_loopw [7, 8] (fun le k wi => ∃ (s kk m : Nat), s ≤ 2 ∧ kk = 2 * j + 1 + s ∧ k = .int .i64 kk ∧ le = .int .i64 m ∧ lst l' j s = m ∧ Below wr.heap.size wr wi) (fun _ k _ => 2 * j + 3 - (intOf k).toNat)
          case atStart => exact ⟨0, 2 * j + 1, j, by omega, by omega, by go_num, rfl, rfl, Below.refl _ _⟩
          case round =>
            obtain ⟨s, kk, m2, hs, hkk, rfl, rfl, hm2, hBi⟩ := hrel
            have HM2 := Lib.hid hm2
            have hm2l : m2 < M := by have := lst_lt (l := l') (j := j) (by rw [HL.out]; exact hj) s; rw [HL.out, hm2] at this; exact this
            have HOI := Lib.hid (OwM.keep HO.out hBi)
            have HKK := Lib.hid hkk
            have hkb : kk ≤ 2 * M + 2 := by omega
            clear hm2 hkk
            by_cases hs2 : s < 2
            · have d2 : decide ((kk : Int) ≤ 2 * (j : Int) + 2) = true := yb (by have := HKK.out; omega)
              have HS2 := Lib.hid hs2
              clear hs2
              have hs5 := hBi.size
              go_upto_region 11 with fail
              rename World => wi
              by_cases hkM : kk < M
              · have d3 : decide ((kk : Int) < (M : Int)) = true := yb (by omega)
                have d3' : decide (kk < M) = true := yb hkM
                have n1 : (0 : Int) ≤ (kk : Int) := by omega
                have n2 : (kk : Int) < (M : Int) := by omega
                have n3 : (0 : Int) ≤ (m2 : Int) := by omega
                have n4 : (m2 : Int) < (M : Int) := by omega
                have hwk : IntKind.i64.wrap (kk : Int) = (kk : Int) := IntWalk.i64_in _ (by omega)
                have hwm : IntKind.i64.wrap (m2 : Int) = (m2 : Int) := IntWalk.i64_in _ (by omega)
                obtain ⟨g0, g1, g2, g3, g4⟩ := OwM.at HOI.out HL.out kk hkM
                obtain ⟨p0, p1, p2, p3, p4⟩ := OwM.at HOI.out HL.out m2 hm2l
                obtain ⟨t, HT⟩ : ∃ y, Hid (g l' kk = y) := ⟨_, rfl⟩
                obtain ⟨x, HX⟩ : ∃ y, Hid (g l' m2 = y) := ⟨_, rfl⟩
                rw [HT.out] at g0 g1 g2 g3 g4
                rw [HX.out] at p0 p1 p2 p3 p4
                have hst : lst l' j (s + 1) = if ltT t x then kk else m2 := by
                  show (if 2 * j + 1 + s < l'.length ∧ ltT (g l' (2 * j + 1 + s)) (g l' (lst l' j s)) then 2 * j + 1 + s else lst l' j s) = _
                  rw [HM2.out, ← HKK.out, HT.out, HX.out, HL.out]
                  by_cases hh : ltT t x
                  · rw [if_pos ⟨hkM, hh⟩, if_pos hh]
                  · rw [if_neg (fun h => hh h.2), if_neg hh]
                refine wp_region_calm (fun w' => Below wi.heap.size wi w') 99 (by kernel_rfl) ((Below.refl _ wi).drew) ?_
                refine cm_run 0 47 (v := ?_) rfl rfl (by kernel_rfl) (by kernel_rfl) (by kernel_rfl) (by kernel_rfl) (by kernel_rfl) (fun _ _ _ h => h) (by rfl) ?_ ?_
                rotate_left
                · (intro wS hS; skip; go_simp; (try with_reducible rfl))
                simp only [List.setIfInBounds_toArray, List.set_cons_zero, List.set_cons_succ]
                refine cm_run 1 48 (v := ?_) rfl rfl (by kernel_rfl) (by kernel_rfl) (by kernel_rfl) (by kernel_rfl) (by kernel_rfl) (fun _ _ _ h => h) (by rfl) ?_ ?_
                rotate_left
                · (intro wS hS; skip; go_simp; (try with_reducible rfl))
                simp only [List.setIfInBounds_toArray, List.set_cons_zero, List.set_cons_succ]
                refine cm_run 2 49 (v := ?_) rfl rfl (by kernel_rfl) (by kernel_rfl) (by kernel_rfl) (by kernel_rfl) (by kernel_rfl) (fun _ _ _ h => h) (by rfl) ?_ ?_
                rotate_left
                · (intro wS hS; skip; go_simp; (try with_reducible rfl))
                simp only [List.setIfInBounds_toArray, List.set_cons_zero, List.set_cons_succ]
                refine cm_run 3 50 (v := ?_) rfl rfl (by kernel_rfl) (by kernel_rfl) (by kernel_rfl) (by kernel_rfl) (by kernel_rfl) (fun _ _ _ h => h) (by rfl) ?_ ?_
                rotate_left
                · (intro wS hS; skip; go_simp; (try with_reducible rfl))
                simp only [List.setIfInBounds_toArray, List.set_cons_zero, List.set_cons_succ]
                refine cm_run 4 51 (v := ?_) rfl rfl (by kernel_rfl) (by kernel_rfl) (by kernel_rfl) (by kernel_rfl) (by kernel_rfl) (fun _ _ _ h => h) (by rfl) ?_ ?_
                rotate_left
                · (intro wS hS; skip; go_simp; (try with_reducible rfl))
                simp only [List.setIfInBounds_toArray, List.set_cons_zero, List.set_cons_succ]
                refine cm_run 5 52 (v := ?_) rfl rfl (by kernel_rfl) (by kernel_rfl) (by kernel_rfl) (by kernel_rfl) (by kernel_rfl) (fun _ _ _ h => h) (by rfl) ?_ ?_
                rotate_left
                · (intro wS hS; skip; go_simp; (try with_reducible rfl))
                simp only [List.setIfInBounds_toArray, List.set_cons_zero, List.set_cons_succ]
                refine cm_run 6 53 (v := ?_) rfl rfl (by kernel_rfl) (by kernel_rfl) (by kernel_rfl) (by kernel_rfl) (by kernel_rfl) (fun _ _ _ h => h) (by rfl) ?_ ?_
                rotate_left
                · (intro wS hS; skip; go_simp; (try with_reducible rfl))
                simp only [List.setIfInBounds_toArray, List.set_cons_zero, List.set_cons_succ]
                refine cm_run 7 54 (v := ?_) rfl rfl (by kernel_rfl) (by kernel_rfl) (by kernel_rfl) (by kernel_rfl) (by kernel_rfl) (fun _ _ _ h => h) (by rfl) ?_ ?_
                rotate_left
                · (intro wS hS; skip; go_simp; (try with_reducible rfl))
                simp only [List.setIfInBounds_toArray, List.set_cons_zero, List.set_cons_succ]
                refine cm_run 8 55 (v := ?_) rfl rfl (by kernel_rfl) (by kernel_rfl) (by kernel_rfl) (by kernel_rfl) (by kernel_rfl) (fun _ _ _ h => h) (by rfl) ?_ ?_
                rotate_left
                · (intro wS hS; (have h0 := cell_later hS g0; have h1 := cell_later hS g1; have h2 := cell_later hS g2; have h3 := cell_later hS g3; have h4 := cell_later hS g4); go_simp; (try with_reducible rfl))
                simp only [List.setIfInBounds_toArray, List.set_cons_zero, List.set_cons_succ]
                refine cm_run 9 56 (v := ?_) rfl rfl (by kernel_rfl) (by kernel_rfl) (by kernel_rfl) (by kernel_rfl) (by kernel_rfl) (fun _ _ _ h => h) (by rfl) ?_ ?_
                rotate_left
                · (intro wS hS; skip; go_simp; (try with_reducible rfl))
                simp only [List.setIfInBounds_toArray, List.set_cons_zero, List.set_cons_succ]
                refine cm_run 10 57 (v := ?_) rfl rfl (by kernel_rfl) (by kernel_rfl) (by kernel_rfl) (by kernel_rfl) (by kernel_rfl) (fun _ _ _ h => h) (by rfl) ?_ ?_
                rotate_left
                · (intro wS hS; skip; go_simp; (try with_reducible rfl))
                simp only [List.setIfInBounds_toArray, List.set_cons_zero, List.set_cons_succ]
                refine cm_run 11 58 (v := ?_) rfl rfl (by kernel_rfl) (by kernel_rfl) (by kernel_rfl) (by kernel_rfl) (by kernel_rfl) (fun _ _ _ h => h) (by rfl) ?_ ?_
                rotate_left
                · (intro wS hS; skip; go_simp; (try with_reducible rfl))
                simp only [List.setIfInBounds_toArray, List.set_cons_zero, List.set_cons_succ]
                refine cm_run 12 59 (v := ?_) rfl rfl (by kernel_rfl) (by kernel_rfl) (by kernel_rfl) (by kernel_rfl) (by kernel_rfl) (fun _ _ _ h => h) (by rfl) ?_ ?_
                rotate_left
                · (intro wS hS; (have h0 := cell_later hS p0; have h1 := cell_later hS p1; have h2 := cell_later hS p2; have h3 := cell_later hS p3; have h4 := cell_later hS p4); go_simp; (try with_reducible rfl))
                simp only [List.setIfInBounds_toArray, List.set_cons_zero, List.set_cons_succ]
                refine cm_call 13 60 43 (v := .bool (decide (ltT t x))) (args := ?_) rfl rfl (by kernel_rfl) (by kernel_rfl) (by kernel_rfl) (by kernel_rfl) (by kernel_rfl) (fun _ _ _ h => h) (by rfl) ?_ ?_ ?_
                rotate_left 1
                · (intro wS hS; go_simp; (try with_reducible rfl))
                · (intro wS hS; refine (before_any t x _).mono ?_; (rintro e w2 ⟨rfl, hb⟩; exact ⟨rfl, Below.next hS hb⟩))
                simp only [List.setIfInBounds_toArray, List.set_cons_zero, List.set_cons_succ]
                by_cases hlt2 : ltT t x
                · have d5 : decide (ltT t x) = true := yb hlt2
                  have HST := Lib.hid (show lst l' j (s + 1) = kk by rw [hst, if_pos hlt2])
                  clear hlt2 hst
                  refine cm_run 14 61 (v := ?_) rfl rfl (by kernel_rfl) (by kernel_rfl) (by kernel_rfl) (by kernel_rfl) (by kernel_rfl) (fun _ _ _ h => h) (by rfl) ?_ ?_
                  rotate_left
                  · (intro wS hS; skip; go_simp; (try with_reducible rfl))
                  simp only [List.setIfInBounds_toArray, List.set_cons_zero, List.set_cons_succ]
                  refine cm_done (by kernel_rfl) ?_
                  intro wS hS
                  refine NoPanic.normal ?_
                  have hB3 := Below.next hBi hS
                  clear hS g0 g1 g2 g3 g4 p0 p1 p2 p3 p4
                  have hwk1 : IntKind.i64.wrap ((kk : Int) + 1) = (kk : Int) + 1 := IntWalk.i64_in _ (by omega)
                  go_wp2_with fail
                  go_roundw
                  case rel => exact ⟨s + 1, kk + 1, kk, by have := HS2.out; omega, by have := HKK.out; omega, by go_num, rfl, HST.out, hB3⟩
                  case measure => have := HKK.out; have := HS2.out; simp [intOf]; omega
                · have d5 : decide (ltT t x) = false := nb hlt2
                  have HST := Lib.hid (show lst l' j (s + 1) = m2 by rw [hst, if_neg hlt2])
                  clear hlt2 hst
                  refine cm_run 14 61 (v := ?_) rfl rfl (by kernel_rfl) (by kernel_rfl) (by kernel_rfl) (by kernel_rfl) (by kernel_rfl) (fun _ _ _ h => h) (by rfl) ?_ ?_
                  rotate_left
                  · (intro wS hS; skip; go_simp; (try with_reducible rfl))
                  simp only [List.setIfInBounds_toArray, List.set_cons_zero, List.set_cons_succ]
                  refine cm_done (by kernel_rfl) ?_
                  intro wS hS
                  refine NoPanic.normal ?_
                  have hB3 := Below.next hBi hS
                  clear hS g0 g1 g2 g3 g4 p0 p1 p2 p3 p4
                  have hwk1 : IntKind.i64.wrap ((kk : Int) + 1) = (kk : Int) + 1 := IntWalk.i64_in _ (by omega)
                  go_wp2_with fail
                  go_roundw
                  case rel => exact ⟨s + 1, kk + 1, m2, by have := HS2.out; omega, by have := HKK.out; omega, by go_num, rfl, HST.out, hB3⟩
                  case measure => have := HKK.out; have := HS2.out; simp [intOf]; omega
              · have d3 : decide ((kk : Int) < (M : Int)) = false := nb (by omega)
                have d3' : decide (kk < M) = false := nb hkM
                have HST := Lib.hid (show lst l' j (s + 1) = m2 by
                  show (if 2 * j + 1 + s < l'.length ∧ ltT (g l' (2 * j + 1 + s)) (g l' (lst l' j s)) then 2 * j + 1 + s else lst l' j s) = _
                  rw [HM2.out, ← HKK.out, HL.out, if_neg (fun h => hkM h.1)])
                refine wp_region_calm (fun w' => Below wi.heap.size wi w') 99 (by kernel_rfl) ((Below.refl _ wi).drew) ?_
                refine cm_run 0 47 (v := ?_) rfl rfl (by kernel_rfl) (by kernel_rfl) (by kernel_rfl) (by kernel_rfl) (by kernel_rfl) (fun _ _ _ h => h) (by rfl) ?_ ?_
                rotate_left
                · (intro wS hS; skip; go_simp; (try with_reducible rfl))
                simp only [List.setIfInBounds_toArray, List.set_cons_zero, List.set_cons_succ]
                refine cm_run 1 48 (v := ?_) rfl rfl (by kernel_rfl) (by kernel_rfl) (by kernel_rfl) (by kernel_rfl) (by kernel_rfl) (fun _ _ _ h => h) (by rfl) ?_ ?_
                rotate_left
                · (intro wS hS; skip; go_simp; (try with_reducible rfl))
                simp only [List.setIfInBounds_toArray, List.set_cons_zero, List.set_cons_succ]
                refine cm_run 2 49 (v := ?_) rfl rfl (by kernel_rfl) (by kernel_rfl) (by kernel_rfl) (by kernel_rfl) (by kernel_rfl) (fun _ _ _ h => h) (by rfl) ?_ ?_
                rotate_left
                · (intro wS hS; skip; go_simp; (try with_reducible rfl))
                simp only [List.setIfInBounds_toArray, List.set_cons_zero, List.set_cons_succ]
                refine cm_run 3 50 (v := ?_) rfl rfl (by kernel_rfl) (by kernel_rfl) (by kernel_rfl) (by kernel_rfl) (by kernel_rfl) (fun _ _ _ h => h) (by rfl) ?_ ?_
                rotate_left
                · (intro wS hS; skip; go_simp; (try with_reducible rfl))
                simp only [List.setIfInBounds_toArray, List.set_cons_zero, List.set_cons_succ]
                refine cm_run 4 51 (v := ?_) rfl rfl (by kernel_rfl) (by kernel_rfl) (by kernel_rfl) (by kernel_rfl) (by kernel_rfl) (fun _ _ _ h => h) (by rfl) ?_ ?_
                rotate_left
                · (intro wS hS; skip; go_simp; (try with_reducible rfl))
                simp only [List.setIfInBounds_toArray, List.set_cons_zero, List.set_cons_succ]
                refine cm_shut 5 52 rfl rfl (by kernel_rfl) (by kernel_rfl) (by kernel_rfl) (by kernel_rfl) (by kernel_rfl) (fun _ _ _ h => h) (by rfl) ?_
                simp only [List.setIfInBounds_toArray, List.set_cons_zero, List.set_cons_succ]
                refine cm_shut 6 53 rfl rfl (by kernel_rfl) (by kernel_rfl) (by kernel_rfl) (by kernel_rfl) (by kernel_rfl) (fun _ _ _ h => h) (by rfl) ?_
                simp only [List.setIfInBounds_toArray, List.set_cons_zero, List.set_cons_succ]
                refine cm_shut 7 54 rfl rfl (by kernel_rfl) (by kernel_rfl) (by kernel_rfl) (by kernel_rfl) (by kernel_rfl) (fun _ _ _ h => h) (by rfl) ?_
                simp only [List.setIfInBounds_toArray, List.set_cons_zero, List.set_cons_succ]
                refine cm_shut 8 55 rfl rfl (by kernel_rfl) (by kernel_rfl) (by kernel_rfl) (by kernel_rfl) (by kernel_rfl) (fun _ _ _ h => h) (by rfl) ?_
                simp only [List.setIfInBounds_toArray, List.set_cons_zero, List.set_cons_succ]
                refine cm_shut 9 56 rfl rfl (by kernel_rfl) (by kernel_rfl) (by kernel_rfl) (by kernel_rfl) (by kernel_rfl) (fun _ _ _ h => h) (by rfl) ?_
                simp only [List.setIfInBounds_toArray, List.set_cons_zero, List.set_cons_succ]
                refine cm_shut 10 57 rfl rfl (by kernel_rfl) (by kernel_rfl) (by kernel_rfl) (by kernel_rfl) (by kernel_rfl) (fun _ _ _ h => h) (by rfl) ?_
                simp only [List.setIfInBounds_toArray, List.set_cons_zero, List.set_cons_succ]
                refine cm_shut 11 58 rfl rfl (by kernel_rfl) (by kernel_rfl) (by kernel_rfl) (by kernel_rfl) (by kernel_rfl) (fun _ _ _ h => h) (by rfl) ?_
                simp only [List.setIfInBounds_toArray, List.set_cons_zero, List.set_cons_succ]
                refine cm_shut 12 59 rfl rfl (by kernel_rfl) (by kernel_rfl) (by kernel_rfl) (by kernel_rfl) (by kernel_rfl) (fun _ _ _ h => h) (by rfl) ?_
                simp only [List.setIfInBounds_toArray, List.set_cons_zero, List.set_cons_succ]
                refine cm_shut 13 60 rfl rfl (by kernel_rfl) (by kernel_rfl) (by kernel_rfl) (by kernel_rfl) (by kernel_rfl) (fun _ _ _ h => h) (by rfl) ?_
                simp only [List.setIfInBounds_toArray, List.set_cons_zero, List.set_cons_succ]
                refine cm_run 14 61 (v := ?_) rfl rfl (by kernel_rfl) (by kernel_rfl) (by kernel_rfl) (by kernel_rfl) (by kernel_rfl) (fun _ _ _ h => h) (by rfl) ?_ ?_
                rotate_left
                · (intro wS hS; skip; go_simp; (try with_reducible rfl))
                simp only [List.setIfInBounds_toArray, List.set_cons_zero, List.set_cons_succ]
                refine cm_done (by kernel_rfl) ?_
                intro wS hS
                refine NoPanic.normal ?_
                have hB3 := Below.next hBi hS
                clear hS
                have hwk1 : IntKind.i64.wrap ((kk : Int) + 1) = (kk : Int) + 1 := IntWalk.i64_in _ (by omega)
                go_wp2_with fail
                go_roundw
                case rel => exact ⟨s + 1, kk + 1, m2, by have := HS2.out; omega, by have := HKK.out; omega, by go_num, rfl, HST.out, hB3⟩
                case measure => have := HKK.out; have := HS2.out; simp [intOf]; omega
            · obtain rfl : s = 2 := by omega
              have d2 : decide ((kk : Int) ≤ 2 * (j : Int) + 2) = false := nb (by have := HKK.out; omega)
              have hlst := lst_two l' j
              rw [HM2.out, HL.out] at hlst
              have HLS := Lib.hid hlst
              have hdn := dn_eq l' j
              rw [HL.out] at hdn
              have HDN := Lib.hid hdn
              have hbr2 := Below.next hBr hBi
              clear hlst hdn
              by_cases hmj : m2 = j
              · have d4 : ((m2 : Int) == (j : Int)) = true := by simp [hmj]
                have HE : Hid (l' = R) := by
                  unfold Hid
                  have h1 := HDN.out
                  have h2 := HLS.out
                  rw [← HD.out, h1]
                  by_cases hc : 2 * j + 1 < M ∧ ltT (g l' (kid l' j)) (g l' j)
                  · rw [if_pos hc] at h2
                    have := kid_bd l' j (by rw [HL.out]; exact hc.1)
                    omega
                  · rw [if_neg hc]
                have HOF := Lib.hid (show _ by have := HOI.out; rw [HE.out] at this; exact this)
                clear hmj
                go_wp2_with fail
                go_ret
                exact ⟨some ⟨q, 0, none⟩, c, by rw [HOL.out]; rfl, by rw [HOL.out, HRO.out]; exact HOF.out, hbr2⟩
              · have d4 : ((m2 : Int) == (j : Int)) = false := by simpa using (by omega : ¬ (m2 : Int) = (j : Int))
                have HC : Hid (2 * j + 1 < M ∧ ltT (g l' (kid l' j)) (g l' j)) := by
                  unfold Hid
                  refine Decidable.byContradiction fun hc => ?_
                  have h2 := HLS.out
                  rw [if_neg hc] at h2
                  exact hmj h2
                have HKD : Hid (m2 = kid l' j) := by unfold Hid; rw [HLS.out, if_pos HC.out]
                have HJM : Hid (j < m2) := by unfold Hid; rw [HKD.out]; exact (kid_bd l' j (by rw [HL.out]; exact HC.out.1)).1
                have HDS : Hid ((dn (swp l' j m2) m2).1 = R) := by
                  unfold Hid
                  have h1 := HDN.out
                  rw [if_pos HC.out, ← HKD.out] at h1
                  rw [← h1]
                  exact HD.out
                clear hmj
                go_wp2_with fail
                refine (rswap_any w.heap.size M c q l' j m2 HL.out hj hm2l (by omega) _ HOI.out).mono ?_
                rintro e w5 ⟨rfl, ho5, hk5⟩
                have hB5 : Below w.heap.size w w5 := hbr2.trans (hk5.below hbr2.size hbt)
                have HO5 := Lib.hid ho5
                clear hk5 ho5
                go_wp2_with fail
                go_roundw
                case rel => exact ⟨m2, swp l' j m2, hm2l, rfl, by rw [swp_len]; exact HL.out, HDS.out, HO5.out, hB5⟩
                case measure => have := HJM.out; simp [intOf]; omega
      · have d1 : ((m : Int) != (i : Int)) = true := by simp; omega
        have HX : Hid (outL l i = r) := by unfold Hid; rw [HOE.out, if_pos hm]
        clear hm hum2
        go_wp2_with fail
        go_ret
        exact ⟨some ⟨q, 0, none⟩, c, by rw [HOL.out]; rfl, by rw [HOL.out, HX.out]; exact HO4.out, hB4⟩
end Go.Proofs.Ytigmhglkohjlhaa
