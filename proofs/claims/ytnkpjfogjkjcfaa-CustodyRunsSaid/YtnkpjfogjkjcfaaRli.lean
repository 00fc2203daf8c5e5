


/- Custody: a list literal's row. -/
import Derived.Test.YtnkpjfogjkjcfaaRX
namespace Go.Proofs.Ytnkpjfogjkjcfaa
open Go.RowKit
set_option linter.unusedSimpArgs false
set_option linter.unusedVariables false
set_option maxRecDepth 100000

theorem rds_lit {α : Type} (R : RowT α) (W : World) (T : TypeId) (l : List α) (n : Nat) (hn : l.length = n) (hm : n ≤ 1000) (hc : ∀ j u, (rcs R l)[j]? = some u → (W.alloc (.cells (rcs R l).toArray T)).cell? ⟨W.heap.size, j, none⟩ = some u) : RdS (W.alloc (.cells (rcs R l).toArray T)) R.size (.slice (some ⟨W.heap.size, 0, none⟩) n n) n (rcs R l) := by
  have := rdl_lit R W T l n hn hm hc
  unfold RdL at this
  rw [hn] at this
  exact this
theorem alloc_cell (W : World) (T : TypeId) (l : List Value) (j : Nat) (u : Value) (h : l[j]? = some u) : (W.alloc (.cells l.toArray T)).cell? ⟨W.heap.size, j, none⟩ = some u := by
  have := (BoxN.new W T l.toArray).cell j
  rw [this]
  simpa using h
end Go.Proofs.Ytnkpjfogjkjcfaa
