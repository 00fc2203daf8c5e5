


/- Custody: Begin: the program, what is not a start. -/
import Derived.Test.YtnkpjfogjkjcfaaU
namespace Go.Proofs.Ytnkpjfogjkjcfaa
open Go.RowKit
set_option linter.unusedSimpArgs false
set_option linter.unusedVariables false
set_option maxRecDepth 100000

set_option maxHeartbeats 1000000 in
theorem begin_bad (w : World) (n d o : Int) (hb : begE n d o ≠ 0) :
    Calls Try.prog 19 #[.int .i64 n, .int .i64 d, .int .i64 o] w (MvR w W0 2) := by
  have hbad : n < 2 ∨ 16 < n ∨ d < 1 ∨ n < d ∨ o < 1 ∨ n < o ∨ o = d := Decidable.not_not.1 (fun hn => hb (by unfold begE; exact if_neg hn))
  clear hb
  obtain ⟨W, hW⟩ : ∃ W : World, W = w.alloc (.cells #[.int .i64 0, .slice none 0 0, .slice none 0 0] 25) := ⟨_, rfl⟩
  have hB0 : Below w.heap.size w W := by rw [hW]; exact (by repeat (first | assumption | exact Below.refl _ _ | apply Below.al | apply below_drewN | apply Below.drew | refine Below.next ?_ (by assumption)))
  have bT : BoxN W w.heap.size 25 #[.int .i64 0, .slice none 0 0, .slice none 0 0] := by rw [hW]; exact BoxN.new _ _ _
  have t0 : W.cell? ⟨w.heap.size, 0, none⟩ = some (.int .i64 0) := bT.cell 0
  have t1 : W.cell? ⟨w.heap.size, 1, none⟩ = some (.slice none 0 0) := bT.cell 1
  have t2 : W.cell? ⟨w.heap.size, 2, none⟩ = some (.slice none 0 0) := bT.cell 2
  have z0 := bT.frozen 0
  have z1 := bT.frozen 1
  have z2 := bT.frozen 2
  clear bT
  go_enter Try.func19, Try.ntmps19
  go_upto_region 1 with fail
  rw [← hW]
  clear hW
  go_cut [37] (fun cc wx => cc = .bool true ∧ wx = W)
  case first =>
    as_aux_lemma =>
    clear t0 t1 t2 z0 z1 z2 hB0
    by_cases h1 : n < 2
    · have d1 : decide (n < 2) = true := yb h1
      clear hbad h1
      go_wp2_with fail
      go_meet
      exact ⟨rfl, rfl⟩
    have d1 : decide (n < 2) = false := nb h1
    by_cases h2 : 16 < n
    · have d2 : decide (16 < n) = true := yb h2
      clear hbad h1 h2
      go_wp2_with fail
      go_meet
      exact ⟨rfl, rfl⟩
    have d2 : decide (16 < n) = false := nb h2
    by_cases h3 : d < 1
    · have d3 : decide (d < 1) = true := yb h3
      clear hbad h1 h2 h3
      go_wp2_with fail
      go_meet
      exact ⟨rfl, rfl⟩
    have d3 : decide (d < 1) = false := nb h3
    by_cases h4 : n < d
    · have d4 : decide (n < d) = true := yb h4
      clear hbad h1 h2 h3 h4
      go_wp2_with fail
      go_meet
      exact ⟨rfl, rfl⟩
    have d4 : decide (n < d) = false := nb h4
    by_cases h5 : o < 1
    · have d5 : decide (o < 1) = true := yb h5
      clear hbad h1 h2 h3 h4 h5
      go_wp2_with fail
      go_meet
      exact ⟨rfl, rfl⟩
    have d5 : decide (o < 1) = false := nb h5
    by_cases h6 : n < o
    · have d6 : decide (n < o) = true := yb h6
      clear hbad h1 h2 h3 h4 h5 h6
      go_wp2_with fail
      go_meet
      exact ⟨rfl, rfl⟩
    have d6 : decide (n < o) = false := nb h6
    have h7 : o = d := by omega
    have d7 : (o == d) = true := by simp [h7]
    clear hbad h1 h2 h3 h4 h5 h6 h7
    go_wp2_with fail
    go_meet
    exact ⟨rfl, rfl⟩
  case rest =>
  obtain ⟨hcc, hwx⟩ := hcut
  subst hcc
  subst hwx
  go_wp2_with fail
  refine bodyPost_ret (v := .tuple #[.agg #[.int .i64 0, .slice none 0 0, .slice none 0 0], .int .i64 2]) (by simp [results, Try.results19, go_sem, t0, t1, t2]) rfl ⟨_, rfl, ?_, RdF.zero _ _⟩
  exact ((hB0.setCell (p := ⟨w.heap.size, 0, none⟩) (Nat.le_refl _) _).setCell (p := ⟨w.heap.size, 1, none⟩) (Nat.le_refl _) _).setCell (p := ⟨w.heap.size, 2, none⟩) (Nat.le_refl _) _
/-- n copies, made -/
theorem made_cops : ∀ n : Nat, n ≤ 16 → (madeCells (#[.int .i64 0, .int .i64 0, .int .i64 0, .int .i64 0, .slice none 0 0, .slice none 0 0] : Array Value) (n * 6)).toList = rcs cpR (List.replicate n cq0) := by
  intro n hn
  rcases n with _ | _ | _ | _ | _ | _ | _ | _ | _ | _ | _ | _ | _ | _ | _ | _ | _ | n
  all_goals first | omega | kernel_rfl
theorem mk_cops (w : World) (N : Nat) (hN : N ≤ 16) : ∃ w', (Instr.makeSlice 22 (.int .i64 (N : Int)) (.int .i64 (N : Int))).run Try.prog w = .ok (.slice (some ⟨w.heap.size, 0, none⟩) N N) w' ∧ OwC w' w.heap.size w.heap.size N N (List.replicate N cq0) ∧ w.grownBy w' none := by
  obtain ⟨w', h1, h2, h3⟩ := run_makeSlice_full (P := Try.prog) (w := w) w.heap.size 22 45 _ _ 6 Try.underlying22 rfl rfl rfl .i64 .i64 N (by omega) (Nat.le_trans (Nat.mul_le_mul_left _ hN) (by decide)) (by unfold maxLen; omega) (Nat.le_refl _)
  refine ⟨w', h1, ?_, h3⟩
  have := made_cops N hN
  unfold OwC
  rw [← this]
  exact h2
end Go.Proofs.Ytnkpjfogjkjcfaa
