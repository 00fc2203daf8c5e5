


/- Custody: Holders and Lost: the program. -/
import Derived.Test.YtnkpjfogjkjcfaaZ
namespace Go.Proofs.Ytnkpjfogjkjcfaa
open Go.RowKit
set_option linter.unusedSimpArgs false
set_option linter.unusedVariables false
set_option maxRecDepth 100000

theorem E35 : ElemOk Try.prog 35 3 (.int .i64 0) 1 8 := ⟨Try.underlying35, by kernel_rfl, rfl, by decide⟩
theorem rds_one (W : World) (x : Value) (T : TypeId) : RdS (W.alloc (.cells #[x] T)) 1 (.slice (some ⟨W.heap.size, 0, none⟩) 1 1) 1 [x] := by
  refine ⟨rfl, by decide, .inr ⟨W.heap.size, 0, 1, rfl, Nat.le_refl _, fun j u hj => ?_⟩⟩
  match j, hj with
  | 0, hj => simp at hj; subst hj; simp [go_sem]
theorem rdi_owns {w : World} {base : Nat} {v : Value} {xs : List Int} (h : w.ownsRow base 3 1 v xs.length (ic .i64 xs)) : RdI .i64 w v xs := RdS.of_owns h (by decide)
theorem hdsN_snoc : ∀ (l : List Cp) (c : Cp) (n : Nat), hdsN (l ++ [c]) n = hdsN l n ++ (if c.st = 1 ∨ c.st = 2 then [((n + l.length : Nat) : Int) + 1] else [])
  | [], c, n => by simp [hdsN]
  | d :: l, c, n => by
    simp only [List.cons_append, hdsN]
    rw [hdsN_snoc l c (n + 1), List.append_assoc]
    have : n + 1 + l.length = n + (d :: l).length := by simp; omega
    rw [this]
def hK (X : Wd) (k : Nat) : List Int := hdsN (X.cs.take k) 0
theorem hK_step {X : Wd} {k : Nat} (hk : k < X.cs.length) : hK X (k + 1) = hK X k ++ (if (gc X.cs k).st = 1 ∨ (gc X.cs k).st = 2 then [(k : Int) + 1] else []) := by
  unfold hK
  have e : gc X.cs k = X.cs[k] := by
    show X.cs.getD k cp0 = _
    rw [List.getD_eq_getElem?_getD, List.getElem?_eq_getElem hk]
    rfl
  rw [List.take_succ_eq_append_getElem hk, hdsN_snoc, e]
  have : (X.cs.take k).length = k := by simp; omega
  rw [this, Nat.zero_add]
theorem hK_len (X : Wd) (k : Nat) : (hK X k).length ≤ k := by
  unfold hK
  have : ∀ (l : List Cp) (n : Nat), (hdsN l n).length ≤ l.length := by
    intro l
    induction l with
    | nil => intro n; simp [hdsN]
    | cons c l ih => intro n; have := ih (n + 1); simp only [hdsN, List.length_append, List.length_cons]; split <;> simp <;> omega
  have h := this (X.cs.take k) 0
  simp at h
  omega
theorem hK_end (X : Wd) : hK X X.cs.length = hdsW X := by unfold hK hdsW; rw [List.take_length]
/-- what Holders answers -/
def HdR (w : World) (xs : List Int) (er : Int) (e : Ending) (w' : World) : Prop := ∃ s, e = .returned (.tuple #[s, .int .i64 er]) ∧ RdI .i64 w' s xs ∧ Fresh w.heap.size s ∧ Below w.heap.size w w'
set_option maxHeartbeats 1000000 in
theorem holders_any (w : World) (v : Value) (X : Wd) (h : RdW w v X) :
    Calls Try.prog 25 #[v] w (HdR w (if Okw X then hdsW X else []) (chkE X)) := by
  obtain ⟨cv, fv0, q, rfl, hp⟩ := h
  have hlq := hp.len
  obtain ⟨a, c, rfl⟩ := hp.rows.form
  obtain ⟨fa, fc, rfl⟩ := hp.frs.form
  obtain ⟨N, hN⟩ : ∃ N, q.length = N := ⟨_, rfl⟩
  obtain ⟨F, hF⟩ : ∃ F, X.fr.length = F := ⟨_, rfl⟩
  have HN := Lib.hid hN
  have HXN : Hid (X.cs.length = N) := Lib.hid (by rw [← hlq, hN])
  rw [hN] at hp ⊢
  rw [hF] at hp ⊢
  clear hN hF hlq
  obtain ⟨xs, HXS⟩ : ∃ xs, Hid ((if Okw X then hdsW X else []) = xs) := ⟨_, Lib.hid rfl⟩
  obtain ⟨er, HER⟩ : ∃ er, Hid (chkE X = er) := ⟨_, Lib.hid rfl⟩
  rw [HXS.out, HER.out]
  obtain ⟨W, hW⟩ : ∃ W : World, W = w.alloc (.cells #[.int .i64 X.ds, .slice a N c, .slice fa F fc] 25) := ⟨_, rfl⟩
  have hB0 : Below w.heap.size w W := by rw [hW]; exact (by repeat (first | assumption | exact Below.refl _ _ | apply Below.al | apply below_drewN | apply Below.drew | refine Below.next ?_ (by assumption)))
  have bX : BoxN W w.heap.size 25 #[.int .i64 X.ds, .slice a N c, .slice fa F fc] := by rw [hW]; exact BoxN.new _ _ _
  have HP := Lib.hid (hp.keep hB0)
  have HRD : Hid (RdW W (wV X (.slice a N c) (.slice fa F fc)) X) := Lib.hid ⟨_, _, _, rfl, hp.keep hB0⟩
  have x0 : W.cell? ⟨w.heap.size, 0, none⟩ = some (.int .i64 X.ds) := bX.cell 0
  have x1 : W.cell? ⟨w.heap.size, 1, none⟩ = some (.slice a N c) := bX.cell 1
  have x2 : W.cell? ⟨w.heap.size, 2, none⟩ = some (.slice fa F fc) := bX.cell 2
  clear bX hp
  go_enter Try.func25, Try.ntmps25
  go_upto_region 1 with fail
  rw [← hW]
  clear hW
  by_cases ho : Okw X
  · have hck : chkE X = 0 := by unfold chkE; exact if_pos ho
    have HCK := Lib.hid (check_any W _ X 0 hck HRD.out)
    have HXE : Hid (xs = hdsW X) := Lib.hid (by rw [← HXS.out, if_pos ho])
    have hN16 : N ≤ 16 := by rw [← HXN.out]; exact ho.2.1
    obtain rfl : er = 0 := by rw [← HER.out]; exact hck
    clear ho hck
    go_wp2_with fail
    refine HCK.out.mono ?_
    rintro e w1 ⟨rfl, hb1⟩
    have hB1 := Below.next hB0 hb1
    have hw1 : w.heap.size ≤ w1.heap.size := hB1.size
    have x1 := cell_later hb1 x1
    have HPW := Lib.hid (HP.out.keep hb1)
    clear hb1 hB0 x0 x2
    go_wp2_with fail
    go_loopw [5, 16] (fun s i wr => ∃ k : Nat, k ≤ N ∧ i = .int .i64 k ∧ wr.ownsRow w1.heap.size 3 1 s (hK X k).length (ic .i64 (hK X k)) ∧ Below w1.heap.size w1 wr) (fun _ i _ => N - (intOf i).toNat)
    case atStart => exact ⟨0, Nat.zero_le _, rfl, World.ownsRow_nil _ _ _ _, Below.refl _ _⟩
    case round =>
      obtain ⟨k, hk, rfl, hown, hbr⟩ := hrel
      obtain ⟨va, vc, rfl⟩ := owns_form hown
      have HOW := Lib.hid hown
      clear hown
      by_cases hlt : k < N
      · have d2 : decide ((k : Int) < (N : Int)) = true := yb (by omega)
        obtain ⟨b, off, rfl, hcap, g0, g1, g2, g3, g4, g5⟩ := RdC.at (HPW.out.keep hbr).rows HN.out k hlt
        have hst := (HPW.out.cop k).st
        obtain ⟨y, HY⟩ : ∃ y, Hid (gq q k = y) := ⟨_, Lib.hid rfl⟩
        obtain ⟨cc, HC⟩ : ∃ cc, Hid (gc X.cs k = cc) := ⟨_, Lib.hid rfl⟩
        rw [HY.out] at g0 g1 g2 g3 g4 g5
        rw [HY.out, HC.out] at hst
        have hE := hK_step (X := X) (k := k) (by rw [HXN.out]; exact hlt)
        rw [HC.out] at hE
        have i1 : (0 : Int) ≤ (k : Int) := by omega
        have i2 : (k : Int) < (N : Int) := by omega
        have hwk : IntKind.i64.wrap ((k : Int) + 1) = (k : Int) + 1 := IntWalk.i64_in _ (by omega)
        obtain ⟨W1, hW1⟩ : ∃ W : World, W = wr.alloc (.cells #[.int .i64 y.st, .int .i64 y.tt, .int .i64 y.of, .int .i64 y.nx, .slice y.ta y.tn y.tc, .slice y.ka y.kn y.kc] 45) := ⟨_, rfl⟩
        have hbw1 : Below wr.heap.size wr W1 := by rw [hW1]; exact (by repeat (first | assumption | exact Below.refl _ _ | apply Below.al | apply below_drewN | apply Below.drew | refine Below.next ?_ (by assumption)))
        have hz1 : wr.heap.size ≤ W1.heap.size := hbw1.size
        have hbx : BoxN W1 wr.heap.size 45 #[.int .i64 y.st, .int .i64 y.tt, .int .i64 y.of, .int .i64 y.nx, .slice y.ta y.tn y.tc, .slice y.ka y.kn y.kc] := by rw [hW1]; exact BoxN.new _ _ _
        have s0 : W1.cell? ⟨wr.heap.size, 0, none⟩ = some (.int .i64 y.st) := hbx.cell 0
        have HOW : Hid (W1.ownsRow w1.heap.size 3 1 (.slice va (hK X k).length vc) (hK X k).length (ic .i64 (hK X k))) := by unfold Hid; rw [hW1]; exact HOW.out.alloc _
        have HB1 := Lib.hid (Below.next hbr hbw1)
        have hlk := hK_len X k
        have HST := Lib.hid hst
        have HE0 := Lib.hid hE
        clear hbx hbr hbw1 hst hE
        go_upto_region 8 with fail
        rw [← hW1]
        clear hW1 g0 g1 g2 g3 g4 g5
        have hst := HST.out
        have hE := HE0.out
        by_cases h1 : cc.st = 1
        · have d3 : (y.st == 1) = true := by simp [hst, h1]
          rw [if_pos (.inl h1)] at hE
          have HE := Lib.hid hE
          clear hE h1 hst
          go_wp2_with (at_builtin; refine wpList_app rfl (.tmp 29) (.tmp 32) 35 rfl w1.heap.size 3 (.int .i64 0) 1 8 E35 _ _ _ rfl (HOW.out.alloc _) _ 1 [.int .i64 ((k : Int) + 1)] rfl (rds_one _ _ _) (by simp [Value.oneCell']) ?c1 ?c2 ?c3 ?_)
          case c1 => unfold maxLen; omega
          case c2 => omega
          case c3 => have := HB1.out.size; simp; omega
          intro a3 c3 w3 hown3 hg3 hb3
          have hown3 : w3.ownsRow w1.heap.size 3 1 (.slice a3 ((hK X k).length + 1) c3) ((hK X k).length + 1) (ic .i64 (hK X k) ++ [.int .i64 ((k : Int) + 1)]) := by with_reducible exact hown3
          have HOW3 := Lib.hid hown3
          have HB3 := Lib.hid hb3
          clear hown3 hg3 hb3
          go_wp2_with fail
          go_roundw
          case rel => exact ⟨k + 1, by omega, by go_num, by rw [HE.out]; simpa [ic_append, ic] using HOW3.out, (Below.al HB1.out _).trans HB3.out⟩
          case measure => simp [intOf]; omega
        · by_cases h2 : cc.st = 2
          · have d3 : (y.st == 1) = false := by simp [hst, h1]
            have d4 : (y.st == 2) = true := by simp [hst, h2]
            rw [if_pos (.inr h2)] at hE
            have HE := Lib.hid hE
            clear hE h1 h2 hst
            go_wp2_with (at_builtin; refine wpList_app rfl (.tmp 29) (.tmp 32) 35 rfl w1.heap.size 3 (.int .i64 0) 1 8 E35 _ _ _ rfl (HOW.out.alloc _) _ 1 [.int .i64 ((k : Int) + 1)] rfl (rds_one _ _ _) (by simp [Value.oneCell']) ?c1 ?c2 ?c3 ?_)
            case c1 => unfold maxLen; omega
            case c2 => omega
            case c3 => have := HB1.out.size; simp; omega
            intro a3 c3 w3 hown3 hg3 hb3
            have hown3 : w3.ownsRow w1.heap.size 3 1 (.slice a3 ((hK X k).length + 1) c3) ((hK X k).length + 1) (ic .i64 (hK X k) ++ [.int .i64 ((k : Int) + 1)]) := by with_reducible exact hown3
            have HOW3 := Lib.hid hown3
            have HB3 := Lib.hid hb3
            clear hown3 hg3 hb3
            go_wp2_with fail
            go_roundw
            case rel => exact ⟨k + 1, by omega, by go_num, by rw [HE.out]; simpa [ic_append, ic] using HOW3.out, (Below.al HB1.out _).trans HB3.out⟩
            case measure => simp [intOf]; omega
          · have d3 : (y.st == 1) = false := by simp [hst, h1]
            have d4 : (y.st == 2) = false := by simp [hst, h2]
            rw [if_neg (by omega)] at hE
            have HE := Lib.hid hE
            clear hE h1 h2 hst
            go_wp2_with fail
            go_roundw
            case rel => exact ⟨k + 1, by omega, by go_num, by rw [HE.out, List.append_nil]; exact HOW.out, HB1.out⟩
            case measure => simp [intOf]; omega
      · obtain rfl : k = N := by omega
        have d2 : decide ((k : Int) < (k : Int)) = false := nb (by omega)
        go_wp2_with fail
        exact bodyPost_ret (v := .tuple #[.slice va (hK X k).length vc, .int .i64 0]) (by simp [results, Try.results25, go_sem]) rfl ⟨_, rfl, by rw [HXE.out, ← hK_end, HXN.out]; exact rdi_owns HOW.out, (Fresh.of_owns HOW.out).mono hw1, hB1.trans (hbr.mono hw1)⟩
  · have hck : chkE X = 3 := by unfold chkE; exact if_neg ho
    have HCK := Lib.hid (check_any W _ X 3 hck HRD.out)
    have HXE : Hid (xs = []) := Lib.hid (by rw [← HXS.out, if_neg ho])
    obtain rfl : er = 3 := by rw [← HER.out]; exact hck
    clear ho hck
    go_wp2_with fail
    refine HCK.out.mono ?_
    rintro e w1 ⟨rfl, hb1⟩
    have hB1 := Below.next hB0 hb1
    clear hb1
    go_wp2_with fail
    exact bodyPost_ret (v := .tuple #[.slice none 0 0, .int .i64 3]) (by simp [results, Try.results25, go_sem]) rfl ⟨_, rfl, by rw [HXE.out]; exact RdI.nil _ _, Fresh.nil _ _ _, hB1⟩
set_option maxHeartbeats 1000000 in
theorem lost_any (w : World) (v : Value) (X : Wd) (h : RdW w v X) :
    Calls Try.prog 27 #[v] w fun e w' => e = .returned (.tuple #[.bool (decide (Okw X) && lstW X), .int .i64 (chkE X)]) ∧ Below w.heap.size w w' := by
  obtain ⟨cv, fv0, q, rfl, hp⟩ := h
  have hlq := hp.len
  obtain ⟨a, c, rfl⟩ := hp.rows.form
  obtain ⟨fa, fc, rfl⟩ := hp.frs.form
  obtain ⟨N, hN⟩ : ∃ N, q.length = N := ⟨_, rfl⟩
  obtain ⟨F, hF⟩ : ∃ F, X.fr.length = F := ⟨_, rfl⟩
  have HN := Lib.hid hN
  have HXN : Hid (X.cs.length = N) := Lib.hid (by rw [← hlq, hN])
  rw [hN] at hp ⊢
  rw [hF] at hp ⊢
  clear hN hF hlq
  obtain ⟨r, HR⟩ : ∃ r, Hid ((decide (Okw X) && lstW X) = r) := ⟨_, Lib.hid rfl⟩
  obtain ⟨er, HER⟩ : ∃ er, Hid (chkE X = er) := ⟨_, Lib.hid rfl⟩
  rw [HR.out, HER.out]
  obtain ⟨W, hW⟩ : ∃ W : World, W = w.alloc (.cells #[.int .i64 X.ds, .slice a N c, .slice fa F fc] 25) := ⟨_, rfl⟩
  have hB0 : Below w.heap.size w W := by rw [hW]; exact (by repeat (first | assumption | exact Below.refl _ _ | apply Below.al | apply below_drewN | apply Below.drew | refine Below.next ?_ (by assumption)))
  have bX : BoxN W w.heap.size 25 #[.int .i64 X.ds, .slice a N c, .slice fa F fc] := by rw [hW]; exact BoxN.new _ _ _
  have HP := Lib.hid (hp.keep hB0)
  have HRD : Hid (RdW W (wV X (.slice a N c) (.slice fa F fc)) X) := Lib.hid ⟨_, _, _, rfl, hp.keep hB0⟩
  have x0 : W.cell? ⟨w.heap.size, 0, none⟩ = some (.int .i64 X.ds) := bX.cell 0
  have x1 : W.cell? ⟨w.heap.size, 1, none⟩ = some (.slice a N c) := bX.cell 1
  have x2 : W.cell? ⟨w.heap.size, 2, none⟩ = some (.slice fa F fc) := bX.cell 2
  clear bX hp
  have hh := holders_any W _ X HRD.out
  obtain ⟨xs, HXS⟩ : ∃ xs, Hid ((if Okw X then hdsW X else []) = xs) := ⟨_, Lib.hid rfl⟩
  rw [HXS.out, HER.out] at hh
  have HH := Lib.hid hh
  clear hh
  go_enter Try.func27, Try.ntmps27
  go_upto_region 1 with fail
  rw [← hW]
  clear hW
  by_cases ho : Okw X
  · obtain rfl : er = 0 := by rw [← HER.out]; unfold chkE; exact if_pos ho
    have hxs : xs = hdsW X := by rw [← HXS.out, if_pos ho]
    obtain ⟨i, hi, hfi, hat0⟩ := atC_get ho.2.2.1
    have hr : r = lstW X := by rw [← HR.out, yb ho, Bool.true_and]
    have hN16 : N ≤ 16 := by rw [← HXN.out]; exact ho.2.1
    unfold lstW at hr
    rw [hat0, ← hxs] at hr
    have hiN : i < N := by rw [← HXN.out]; exact hi
    obtain ⟨b, off, rfl, hcap, g0, g1, g2, g3, g4, g5⟩ := RdC.at HP.out.rows HN.out i hiN
    have hst := (HP.out.cop i).st
    obtain ⟨y, HY⟩ : ∃ y, Hid (gq q i = y) := ⟨_, Lib.hid rfl⟩
    rw [HY.out] at g0 hst
    rw [← hst] at hr
    have HRR := Lib.hid hr
    have HFI := Lib.hid hfi
    have i1 : (0 : Int) ≤ (i : Int) := by omega
    have i2 : (i : Int) < (N : Int) := by omega
    have hwk : IntKind.i64.wrap ((i : Int) + 1 - 1) = (i : Int) := by rw [show (i : Int) + 1 - 1 = (i : Int) by omega]; exact IntWalk.i64_in _ (by omega)
    clear ho hxs hat0 hr hst hfi g1 g2 g3 g4 g5 hi
    go_wp2_with fail
    refine HH.out.mono ?_
    rintro e w1 ⟨s, rfl, hs, _, hb1⟩
    obtain ⟨sa, sc, rfl⟩ := hs.form
    have hB1 := Below.next hB0 hb1
    replace x0 := cell_later hb1 x0
    rw [HFI.out] at x0
    have x1 := cell_later hb1 x1
    have g0 := cell_later hb1 g0
    clear hb1 hs
    by_cases hn : xs = []
    · obtain ⟨M, hM⟩ : ∃ M, xs.length = M := ⟨_, rfl⟩
      have d3 : ((M : Int) == 0) = true := by simp [← hM, hn]
      rw [hM]
      by_cases h4 : y.st = 4
      · have d4 : (y.st != 4) = false := by simp [h4]
        have HRF : Hid (r = false) := Lib.hid (by rw [HRR.out]; exact nb (fun hx => hx.2 h4))
        clear hM hn h4
        go_wp2_with fail
        exact bodyPost_ret (v := .tuple #[.bool false, .int .i64 0]) (by simp [results, Try.results27, go_sem]) rfl ⟨by rw [HRF.out], hB1⟩
      · have d4 : (y.st != 4) = true := by simp [h4]
        have HRF : Hid (r = true) := Lib.hid (by rw [HRR.out]; exact yb ⟨hn, h4⟩)
        clear hM hn h4
        go_wp2_with fail
        exact bodyPost_ret (v := .tuple #[.bool true, .int .i64 0]) (by simp [results, Try.results27, go_sem]) rfl ⟨by rw [HRF.out], hB1⟩
    · obtain ⟨M, hM⟩ : ∃ M, xs.length = M := ⟨_, rfl⟩
      have hM0 : M ≠ 0 := fun e => hn (List.length_eq_zero_iff.1 (hM.trans e))
      have d3 : ((M : Int) == 0) = false := by simp; exact hM0
      have HRF : Hid (r = false) := Lib.hid (by rw [HRR.out]; exact nb (fun hx => hn hx.1))
      rw [hM]
      clear hM hn hM0
      go_wp2_with fail
      exact bodyPost_ret (v := .tuple #[.bool false, .int .i64 0]) (by simp [results, Try.results27, go_sem]) rfl ⟨by rw [HRF.out], hB1⟩
  · obtain rfl : er = 3 := by rw [← HER.out]; unfold chkE; exact if_neg ho
    have HRF : Hid (r = false) := Lib.hid (by rw [← HR.out, nb ho]; rfl)
    clear ho
    go_wp2_with fail
    refine HH.out.mono ?_
    rintro e w1 ⟨s, rfl, hs, _, hb1⟩
    have hB1 := Below.next hB0 hb1
    clear hb1 hs
    go_wp2_with fail
    exact bodyPost_ret (v := .tuple #[.bool false, .int .i64 3]) (by simp [results, Try.results27, go_sem]) rfl ⟨by rw [HRF.out], hB1⟩
end Go.Proofs.Ytnkpjfogjkjcfaa
