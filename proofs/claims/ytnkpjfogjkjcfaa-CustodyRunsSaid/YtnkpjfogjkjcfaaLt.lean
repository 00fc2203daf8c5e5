


/- Custody: light worlds. -/
import Derived.Test.YtnkpjfogjkjcfaaP
namespace Go.Proofs.Ytnkpjfogjkjcfaa
open Go.RowKit
set_option linter.unusedSimpArgs false
set_option linter.unusedVariables false
set_option maxRecDepth 100000

def lightP (X : Wd) : Prop := X.cs.length ≤ 18 ∧ X.fr.length ≤ 66 ∧ ∀ i, i < X.cs.length → (gc X.cs i).tk.length ≤ 20 ∧ (gc X.cs i).kp.length ≤ 20
instance (X : Wd) : Decidable (lightP X) := by unfold lightP; infer_instance
theorem lightP.sml {X : Wd} (h : lightP X) : Sml X := ⟨by have := h.1; omega, by have := h.2.1; omega, fun i => by
  by_cases hi : i < X.cs.length
  · have := h.2.2 i hi; omega
  · have e : gc X.cs i = cp0 := by
      show X.cs.getD i cp0 = cp0
      rw [List.getD_eq_getElem?_getD, List.getElem?_eq_none (by omega)]
      rfl
    rw [e]
    exact ⟨Nat.zero_le _, Nat.zero_le _⟩⟩
set_option maxHeartbeats 1000000 in
theorem light_any (w : World) (v : Value) (X : Wd) (h : RdW w v X) : Calls Try.prog 12 #[v] w fun e w' => e = .returned (.bool (decide (lightP X))) ∧ Below w.heap.size w w' := by
  obtain ⟨cv, fv, q, rfl, hp⟩ := h
  have hl := hp.len
  have hmx := hp.rows.2.1
  have hmf := hp.frs.2.1
  unfold maxLen at hmx hmf
  obtain ⟨a, c, rfl⟩ := hp.rows.form
  obtain ⟨fa, fc, rfl⟩ := hp.frs.form
  obtain ⟨N, hN⟩ : ∃ N, X.cs.length = N := ⟨_, rfl⟩
  obtain ⟨F, hF⟩ : ∃ F, X.fr.length = F := ⟨_, rfl⟩
  obtain ⟨r, hr⟩ : ∃ r, decide (lightP X) = r := ⟨_, rfl⟩
  rw [hr]
  rw [hN] at hl
  rw [hl] at hp hmx ⊢
  rw [hF] at hp hmf ⊢
  obtain ⟨W, hW⟩ : ∃ W : World, W = w.alloc (.cells #[.int .i64 X.ds, .slice a N c, .slice fa F fc] 25) := ⟨_, rfl⟩
  have hB0 : Below w.heap.size w W := by rw [hW]; exact (by repeat (first | assumption | exact Below.refl _ _ | apply Below.al | apply below_drewN | apply Below.drew | refine Below.next ?_ (by assumption)))
  have bX : BoxN W w.heap.size 25 #[.int .i64 X.ds, .slice a N c, .slice fa F fc] := by rw [hW]; exact BoxN.new _ _ _
  have HP := Lib.hid (hp.keep hB0)
  have HL := Lib.hid hl
  have HN := Lib.hid hN
  have HF := Lib.hid hF
  have HRR := Lib.hid hr
  have x1 : W.cell? ⟨w.heap.size, 1, none⟩ = some (.slice a N c) := bX.cell 1
  have x2 : W.cell? ⟨w.heap.size, 2, none⟩ = some (.slice fa F fc) := bX.cell 2
  clear bX hp hl hN hF hr
  go_enter Try.func12, Try.ntmps12
  go_upto_region 1 with fail
  rw [← hW]
  clear hW
  by_cases h1 : N ≤ 18
  rotate_left
  · have d1 : decide (18 < (N : Int)) = true := yb (by omega)
    have d1' : 18 < N := by omega
    obtain rfl : r = false := by rw [← HRR.out]; exact nb (fun e => h1 (by rw [← HN.out]; exact e.1))
    clear h1
    go_wp2_with fail
    go_ret
    exact ⟨rfl, hB0⟩
  have d1 : decide (18 < (N : Int)) = false := nb (by omega)
  have d1' : ¬ 18 < N := by omega
  by_cases h2 : F ≤ 66
  rotate_left
  · have d2 : decide (66 < (F : Int)) = true := yb (by omega)
    have d2' : 66 < F := by omega
    obtain rfl : r = false := by rw [← HRR.out]; exact nb (fun e => h2 (by rw [← HF.out]; exact e.2.1))
    clear h1 h2
    go_wp2_with fail
    go_ret
    exact ⟨rfl, hB0⟩
  have d2 : decide (66 < (F : Int)) = false := nb (by omega)
  have d2' : ¬ 66 < F := by omega
  go_wp2_with fail
  go_loopw [3] (fun i wr => ∃ k : Nat, k ≤ N ∧ i = .int .i64 k ∧ Below W.heap.size W wr ∧ ∀ j, j < k → (gc X.cs j).tk.length ≤ 20 ∧ (gc X.cs j).kp.length ≤ 20) (fun i _ => N - (intOf i).toNat)
  case atStart => exact ⟨0, Nat.zero_le _, rfl, Below.refl _ _, fun j hj => by omega⟩
  case round =>
    obtain ⟨k, hk, rfl, hbk, hall⟩ := hrel
    have x1 := cell_later hbk x1
    have hB0 := Below.next hB0 hbk
    have HALL := Lib.hid hall
    clear hall
    by_cases hlt : k < N
    · have e1 : decide ((k : Int) < (N : Int)) = true := yb (by omega)
      obtain ⟨b1, o1, rfl, hc1, g0, g1, g2, g3, g4, g5⟩ := RdC.at (HP.out.keep hbk).rows HL.out k hlt
      have hco := HP.out.cop k
      obtain ⟨y, HY⟩ : ∃ y, Hid (gq q k = y) := ⟨_, rfl⟩
      obtain ⟨cc, HC⟩ : ∃ cc, Hid (gc X.cs k = cc) := ⟨_, rfl⟩
      rw [HY.out] at g4 g5
      rw [HY.out, HC.out] at hco
      have htn : y.tn = cc.tk.length := by
        obtain ⟨a9, c9, e9⟩ := hco.tk.form
        simp only [Cq.tv, Value.slice.injEq] at e9
        exact e9.2.1
      have hkn : y.kn = cc.kp.length := by
        obtain ⟨a9, c9, e9⟩ := hco.kp.form
        simp only [Cq.kv, Value.slice.injEq] at e9
        exact e9.2.1
      have n1 : (0 : Int) ≤ (k : Int) := by omega
      have n2 : (k : Int) < (N : Int) := by omega
      have hwk : IntKind.i64.wrap (k : Int) = (k : Int) := IntWalk.i64_in _ (by omega)
      have hwk2 : IntKind.i64.wrap ((k : Int) + 1) = (k : Int) + 1 := IntWalk.i64_in _ (by omega)
      have HTN := Lib.hid htn
      have HKN := Lib.hid hkn
      clear hco htn hkn g0 g1 g2 g3
      by_cases c1 : y.tn ≤ 20
      rotate_left
      · have d3 : decide (20 < (y.tn : Int)) = true := yb (by omega)
        have d3' : 20 < y.tn := by omega
        obtain rfl : r = false := by
          rw [← HRR.out]
          exact nb (fun e => c1 (by have := (e.2.2 k (by rw [HN.out]; exact hlt)).1; rw [HC.out, ← HTN.out] at this; exact this))
        clear c1
        go_wp2_with fail
        go_ret
        exact ⟨rfl, hB0⟩
      have d3 : decide (20 < (y.tn : Int)) = false := nb (by omega)
      have d3' : ¬ 20 < y.tn := by omega
      by_cases c2 : y.kn ≤ 20
      rotate_left
      · have d4 : decide (20 < (y.kn : Int)) = true := yb (by omega)
        have d4' : 20 < y.kn := by omega
        obtain rfl : r = false := by
          rw [← HRR.out]
          exact nb (fun e => c2 (by have := (e.2.2 k (by rw [HN.out]; exact hlt)).2; rw [HC.out, ← HKN.out] at this; exact this))
        clear c1 c2
        go_wp2_with fail
        go_ret
        exact ⟨rfl, hB0⟩
      have d4 : decide (20 < (y.kn : Int)) = false := nb (by omega)
      have d4' : ¬ 20 < y.kn := by omega
      have HST : Hid (∀ j, j < k + 1 → (gc X.cs j).tk.length ≤ 20 ∧ (gc X.cs j).kp.length ≤ 20) := Lib.hid (fun j hj => by
        by_cases hjk : j < k
        · exact HALL.out j hjk
        · obtain rfl : j = k := by omega
          rw [HC.out, ← HTN.out, ← HKN.out]
          exact ⟨c1, c2⟩)
      clear c1 c2
      go_wp2_with fail
      go_roundw
      case rel => exact ⟨k + 1, by omega, by go_num, hbk, HST.out⟩
      case measure => simp [intOf]; omega
    · obtain rfl : k = N := by omega
      have e1 : decide ((k : Int) < (k : Int)) = false := nb (by omega)
      obtain rfl : r = true := by
        rw [← HRR.out]
        exact yb ⟨by rw [HN.out]; exact h1, by rw [HF.out]; exact h2, fun i hi => HALL.out i (by rw [← HN.out]; exact hi)⟩
      go_wp2_with fail
      go_ret
      exact ⟨rfl, hB0⟩
end Go.Proofs.Ytnkpjfogjkjcfaa
