/-
  DERIVED. GIVEN WITH THE SEED: THE PROGRAM's TIES (one call each: nine closed facts by the kernel) AND EACH ROW's TIE, after the 31st guide's Derived/Test/Toyas{Tie, Card}.lean. No idea stands in it: it is a product of the set-up. Laid BY PROGRAM, IN A SANDBOX (cutbox-door.mjs). By AI agents, Wed Nov 11 2026. No macro, syntax, notation, axiom, sorry.
-/
import Derived.Test.YtcjlbpndgjapiaaDoorRows
import Derived.LaidByTextLater
import Derived.SevenTiedAt
import Derived.LaidSub
import Derived.LaidOnce
namespace Go.Proofs.YtcjlbpndgjapiaaDoor
open Go
set_option maxRecDepth 100000
theorem seatTie1 : Tryd.prog.laidByTextLater [("packhorse/trace.faces", Rows.laid_packhorse_trace_faces), ("packhorse/model.steps", Rows.laid_packhorse_model_steps)] [.widerDeep, .funcs] true :=
  Program.laidByTextLater_by_one 59 8 33 (by kernel_rfl) (by kernel_rfl) (by kernel_rfl) (by kernel_rfl) (by kernel_rfl) (by kernel_rfl) (fun _ _ => by kernel_rfl)
theorem noOwnUnsafe : Tryd.pinned.checked.prog.headLifts.contains "ownunsafe" = false := by kernel_rfl
theorem tie : Tryd.prog.laidByTextLater [("packhorse/trace.faces", Rows.laid_packhorse_trace_faces), ("packhorse/model.steps", Rows.laid_packhorse_model_steps)] [.widerDeep, .funcs] true :=
  Program.laidByTextLater.sub seatTie1 ["packhorse/trace.faces", "packhorse/model.steps"] (by kernel_rfl) (by kernel_rfl)
theorem modelAllows_row_tie : Rows.modelAllowsRow.laidByTextAt .later Tryd.pinned [.widerDeep, .funcs] true :=
  OpenClaim.laidByTextAt_later rfl rfl tie noOwnUnsafe
theorem modelHolds_row_tie : Rows.modelHoldsRow.laidByTextAt .later Tryd.pinned [.widerDeep, .funcs] true :=
  OpenClaim.laidByTextAt_later rfl rfl tie noOwnUnsafe
theorem modelKnown_row_tie : Rows.modelKnownRow.laidByTextAt .later Tryd.pinned [.widerDeep, .funcs] true :=
  OpenClaim.laidByTextAt_later rfl rfl tie noOwnUnsafe
theorem modelBegins_row_tie : Rows.modelBeginsRow.laidByTextAt .later Tryd.pinned [.widerDeep, .funcs] true :=
  OpenClaim.laidByTextAt_later rfl rfl tie noOwnUnsafe
theorem modelOnce_row_tie : Rows.modelOnceRow.laidByTextAt .later Tryd.pinned [.widerDeep, .funcs] true :=
  OpenClaim.laidByTextAt_later rfl rfl tie noOwnUnsafe
theorem modelApart_row_tie : Rows.modelApartRow.laidByTextAt .later Tryd.pinned [.widerDeep, .funcs] true :=
  OpenClaim.laidByTextAt_later rfl rfl tie noOwnUnsafe
theorem modelAllowsUpto_row_tie : Rows.modelAllowsUptoRow.laidByTextAt .later Tryd.pinned [.widerDeep, .funcs] true :=
  OpenClaim.laidByTextAt_later rfl rfl tie noOwnUnsafe
theorem modelHoldsUpto_row_tie : Rows.modelHoldsUptoRow.laidByTextAt .later Tryd.pinned [.widerDeep, .funcs] true :=
  OpenClaim.laidByTextAt_later rfl rfl tie noOwnUnsafe
theorem modelKnownUpto_row_tie : Rows.modelKnownUptoRow.laidByTextAt .later Tryd.pinned [.widerDeep, .funcs] true :=
  OpenClaim.laidByTextAt_later rfl rfl tie noOwnUnsafe
theorem modelBeginsUpto_row_tie : Rows.modelBeginsUptoRow.laidByTextAt .later Tryd.pinned [.widerDeep, .funcs] true :=
  OpenClaim.laidByTextAt_later rfl rfl tie noOwnUnsafe
theorem modelOnceUpto_row_tie : Rows.modelOnceUptoRow.laidByTextAt .later Tryd.pinned [.widerDeep, .funcs] true :=
  OpenClaim.laidByTextAt_later rfl rfl tie noOwnUnsafe
theorem modelApartUpto_row_tie : Rows.modelApartUptoRow.laidByTextAt .later Tryd.pinned [.widerDeep, .funcs] true :=
  OpenClaim.laidByTextAt_later rfl rfl tie noOwnUnsafe
end Go.Proofs.YtcjlbpndgjapiaaDoor
