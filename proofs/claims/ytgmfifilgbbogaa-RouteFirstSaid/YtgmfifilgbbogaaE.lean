


/- Volume: the plan's map of pairs, and the check of a plan. -/
import Derived.Test.YtgmfifilgbbogaaD
import Derived.Maps.OwnOps
import Derived.Maps.Views
import Derived.DeepKeys4
namespace Go.Proofs.Ytgmfifilgbbogaa
open Go.RowKit Go.Maps
set_option linter.unusedSimpArgs false
set_option linter.unusedVariables false
set_option maxRecDepth 100000
set_option maxRecDepth 100000 in
theorem row71 : (97 : TypeId) < Try.prog.types.size := of_decide_eq_true (by kernel_rfl)
set_option maxRecDepth 100000 in
theorem wide71 : (match Try.prog.underlying 97 with | some (.array _ _) | some (.struct _) => true | _ => false) = true := by rw [Try.underlying97]
set_option maxRecDepth 100000 in
theorem law71 : Keyed Try.prog 97 := Keyed.of_law (deep_law_laid Try.laidOut (m := 2) (by omega) row71 (by kernel_rfl) wide71)
set_option maxRecDepth 100000 in
theorem key_of (a b : Int) (ha : (Lit.int .i64 a).wf = true) (hb : (Lit.int .i64 b).wf = true) : ∃ l, keyOf Try.prog 97 (.agg #[.int .i64 a, .int .i64 b]) = some l := by
  unfold keyOf
  have hkt : Try.prog.keyType 97 = true := by kernel_rfl
  have hc : Try.prog.cellsOf 97 = 2 := by kernel_rfl
  have hc3 : Try.prog.cellsOf 3 = 1 := by kernel_rfl
  have hf : Value.formed Try.prog 97 (.agg #[.int .i64 a, .int .i64 b]) = true := by simp [Value.formed, Try.underlying97, hc]
  simp only [Try.underlying97, hkt, hf, Bool.and_self, if_true]
  have hl : Try.prog.keyLits (Try.prog.types.size + 1) 97 (Value.agg #[.int .i64 a, .int .i64 b]).cells.toList = some [.int .i64 a, .int .i64 b] := by
    obtain ⟨m, hm⟩ : ∃ m, Try.prog.types.size + 1 = m + 1 + 1 := ⟨Try.prog.types.size - 1, by rw [Nat.sub_add_cancel (Nat.lt_of_le_of_lt (Nat.zero_le _) row71)]⟩
    rw [hm]
    unfold Program.keyLits
    simp only [Try.underlying97]
    unfold Program.keyLits
    simp [Try.underlying3, Value.cells, hc3, ha, hb]
    refine ⟨hc.symm, [[.int .i64 a], [.int .i64 b]], ?_, by simp⟩
    rw [show List.range 2 = [0, 1] from rfl]
    simp [ha, hb]
  rw [hl]
  exact ⟨_, rfl⟩
theorem cells3 : Try.prog.cellsOf 3 = 1 := by kernel_rfl
def i0 : DataW Unit := .lit (.int .i64 0)
theorem zero3 (w : World) : (zeroValue 3).run Try.prog w = .ok (.int .i64 0) w := by kernel_rfl
/-- the key that a pair reads as -/
noncomputable def kl (a b : Int) : Lit := (keyOf Try.prog 97 (.agg #[.int .i64 a, .int .i64 b])).getD (.bool false)
theorem kl_of {a b : Int} (ha : (Lit.int .i64 a).wf = true) (hb : (Lit.int .i64 b).wf = true) : keyOf Try.prog 97 (.agg #[.int .i64 a, .int .i64 b]) = some (kl a b) := by
  obtain ⟨l, hl⟩ := key_of a b ha hb
  unfold kl
  rw [hl]; rfl
theorem kl_ne {a b c d : Int} (ha : (Lit.int .i64 a).wf = true) (hb : (Lit.int .i64 b).wf = true) (hc : (Lit.int .i64 c).wf = true) (hd : (Lit.int .i64 d).wf = true) (hne : ¬ (a = c ∧ b = d)) : kl a b ≠ kl c d := by
  intro h
  have h1 := kl_of ha hb
  rw [h] at h1
  have := law71.inj h1 (kl_of hc hd)
  simp at this
  exact hne this
end Go.Proofs.Ytgmfifilgbbogaa
