/-
  NARROWER THAN 'FOR EVERY INPUT', by the rows' own cells (each row's printed sentence says how): ModelAllows: laid · ModelHolds: laid · ModelKnown: laid · ModelBegins: laid · ModelOnce: laid · ModelApart: laid.
  DERIVED. THE GIVEN ROWS OF THIS SEAT. 6 by the template 'for every input the law returns true; each argument reads behind the call as it read before'; 0 by the template 'total and deterministic' (their statements: YtcjlbpndgjapiaaDoorTotals.lean).
  GIVEN WITH THE SEED: the statements are not yours to turn. If you find one false, say at which input.
  Laid BY PROGRAM, IN A SANDBOX (cutbox-rows.mjs): the forced cells as the released guide's own fill.sh prints them over the translation e1a9f9af2f1d6ff0… (all of the seat's roots in one cut). By AI agents, Wed Nov 11 2026. No macro, syntax, notation, axiom, sorry.
-/
import Derived.Test.YtcjlbpndgjapiaaDoorChecked
import GoSem.Claim
import GoSem.ClaimJoined
import GoSem.ClaimMapViews
import Derived.JoinedTies
import Derived.KernelRfl
namespace Go.Proofs.YtcjlbpndgjapiaaDoor
/- THE CELL 'sum', in the pinned program and in every row, IS THE sha256 OF THE DUMP (.gsa) THAT YtcjlbpndgjapiaaDoorProg.lean LOADS. Nothing in Lean hashes anything: it is a label: what it is worth is what the hold of that sum in a sandbox is worth. -/
noncomputable def Tryd.pinned : Pinned := { name := "ytcjlbpndgjapiaadoor", sum := "e1a9f9af2f1d6ff05c050cbf8f1dce5a9636813014fc83d135bad029fb5e3085", checked := Tryd.checked }
namespace Rows
def none {H : Type} : Left H := { results := [], args := [] }

/- WHAT THE LISTED PACKAGE-LEVEL VARIABLES READ AS WHEN THE CALL BEGINS. Each datum BY PROGRAM (the guide's laid-datum.mjs) off the statement by which the dump's own 'gosem.cut.vars' lays the variable. In a bare row this is a premise. The card (YtcjlbpndgjapiaaDoorCards.lean) ties it to the program's text. -/
def laid_packhorse_trace_faces {H : Type} : DataW H := .agg [.agg [.lit (.string []), .lit (.int .i64 0)], .agg [.lit (.string [97, 99, 99, 101, 112, 116, 101, 100]), .lit (.int .i64 1)], .agg [.lit (.string [114, 97, 116, 101, 45, 108, 105, 109, 105, 116, 101, 100]), .lit (.int .i64 1)], .agg [.lit (.string [102, 111, 114, 101, 99, 97, 115, 116, 45, 102, 117, 108, 108]), .lit (.int .i64 1)], .agg [.lit (.string [116, 111, 111, 45, 108, 97, 114, 103, 101]), .lit (.int .i64 1)], .agg [.lit (.string [109, 97, 108, 102, 111, 114, 109, 101, 100]), .lit (.int .i64 0)], .agg [.lit (.string [116, 111, 111, 107]), .lit (.int .i64 3)], .agg [.lit (.string [104, 97, 110, 100, 101, 100]), .lit (.int .i64 3)], .agg [.lit (.string [100, 101, 108, 105, 118, 101, 114, 101, 100]), .lit (.int .i64 1)], .agg [.lit (.string [101, 120, 112, 105, 114, 101, 100]), .lit (.int .i64 1)], .agg [.lit (.string [114, 101, 102, 117, 115, 101, 100]), .lit (.int .i64 3)], .agg [.lit (.string [115, 116, 97, 108, 101]), .lit (.int .i64 2)], .agg [.lit (.string [103, 97, 114, 98, 108, 101, 100]), .lit (.int .i64 6)], .agg [.lit (.string [111, 118, 101, 114, 114, 117, 110]), .lit (.int .i64 2)], .agg [.lit (.string [99, 114, 97, 115, 104, 101, 100]), .lit (.int .i64 0)], .agg [.lit (.string [114, 101, 115, 116, 97, 114, 116, 101, 100]), .lit (.int .i64 0)]]
def laid_packhorse_model_steps {H : Type} : DataW H := .iface "func table" (.map [(.int .i64 1, .iface "func" (.lit (.string [40, 42, 112, 97, 99, 107, 104, 111, 114, 115, 101, 47, 109, 111, 100, 101, 108, 46, 102, 97, 116, 101, 41, 46, 97, 99, 99, 101, 112, 116]))), (.int .i64 6, .iface "func" (.lit (.string [40, 42, 112, 97, 99, 107, 104, 111, 114, 115, 101, 47, 109, 111, 100, 101, 108, 46, 102, 97, 116, 101, 41, 46, 116, 97, 107, 101]))), (.int .i64 7, .iface "func" (.lit (.string [40, 42, 112, 97, 99, 107, 104, 111, 114, 115, 101, 47, 109, 111, 100, 101, 108, 46, 102, 97, 116, 101, 41, 46, 104, 97, 110, 100]))), (.int .i64 8, .iface "func" (.lit (.string [40, 42, 112, 97, 99, 107, 104, 111, 114, 115, 101, 47, 109, 111, 100, 101, 108, 46, 102, 97, 116, 101, 41, 46, 100, 101, 108, 105, 118, 101, 114]))), (.int .i64 9, .iface "func" (.lit (.string [40, 42, 112, 97, 99, 107, 104, 111, 114, 115, 101, 47, 109, 111, 100, 101, 108, 46, 102, 97, 116, 101, 41, 46, 101, 120, 112, 105, 114, 101])))])

/-- 'packhorselaw40.ModelAllows': WHATEVER THE INPUT: true; the input reads as it did. -/
def modelAllowsSpec : ChangeSpec := { name := "modelAllows", fn := fun _ => fun
  | [d1, d2, d3] => { results := [.lit (.bool true)], args := [d1, d2, d3] }
  | _ => none }
def modelAllowsRow : OpenClaim := { program := "ytcjlbpndgjapiaadoor", sum := "e1a9f9af2f1d6ff05c050cbf8f1dce5a9636813014fc83d135bad029fb5e3085", func := "packhorse/packhorselaw40.ModelAllows", spec := "modelAllows", unfollowed := true, recurses := true, named := ["packhorse/trace.faces", "packhorse/model.steps"], plainKeys := false, apart := false, laid := [("packhorse/trace.faces", laid_packhorse_trace_faces), ("packhorse/model.steps", laid_packhorse_model_steps)] }
def ModelAllowsSaid : Prop := modelAllowsRow.holds Tryd.pinned (OpenSpec.ofChange modelAllowsSpec)

/-- ITS FALSE NEIGHBOUR: 'it returns false'. Refute it at one input. -/
def modelAllowsWrong : ChangeSpec := { name := "modelAllows", fn := fun _ => fun
  | [d1, d2, d3] => { results := [.lit (.bool false)], args := [d1, d2, d3] }
  | _ => none }
def ModelAllowsWrongFalsely : Prop := modelAllowsRow.holds Tryd.pinned (OpenSpec.ofChange modelAllowsWrong)

/-- 'packhorselaw40.ModelHolds': WHATEVER THE INPUT: true; the input reads as it did. -/
def modelHoldsSpec : ChangeSpec := { name := "modelHolds", fn := fun _ => fun
  | [d1, d2, d3] => { results := [.lit (.bool true)], args := [d1, d2, d3] }
  | _ => none }
def modelHoldsRow : OpenClaim := { program := "ytcjlbpndgjapiaadoor", sum := "e1a9f9af2f1d6ff05c050cbf8f1dce5a9636813014fc83d135bad029fb5e3085", func := "packhorse/packhorselaw40.ModelHolds", spec := "modelHolds", unfollowed := true, recurses := true, named := ["packhorse/trace.faces", "packhorse/model.steps"], plainKeys := false, apart := false, laid := [("packhorse/trace.faces", laid_packhorse_trace_faces), ("packhorse/model.steps", laid_packhorse_model_steps)] }
def ModelHoldsSaid : Prop := modelHoldsRow.holds Tryd.pinned (OpenSpec.ofChange modelHoldsSpec)

/-- ITS FALSE NEIGHBOUR: 'it returns false'. Refute it at one input. -/
def modelHoldsWrong : ChangeSpec := { name := "modelHolds", fn := fun _ => fun
  | [d1, d2, d3] => { results := [.lit (.bool false)], args := [d1, d2, d3] }
  | _ => none }
def ModelHoldsWrongFalsely : Prop := modelHoldsRow.holds Tryd.pinned (OpenSpec.ofChange modelHoldsWrong)

/-- 'packhorselaw40.ModelKnown': WHATEVER THE INPUT: true; the input reads as it did. -/
def modelKnownSpec : ChangeSpec := { name := "modelKnown", fn := fun _ => fun
  | [] => { results := [.lit (.bool true)], args := [] }
  | _ => none }
def modelKnownRow : OpenClaim := { program := "ytcjlbpndgjapiaadoor", sum := "e1a9f9af2f1d6ff05c050cbf8f1dce5a9636813014fc83d135bad029fb5e3085", func := "packhorse/packhorselaw40.ModelKnown", spec := "modelKnown", unfollowed := true, recurses := true, named := ["packhorse/trace.faces", "packhorse/model.steps"], plainKeys := false, apart := false, laid := [("packhorse/trace.faces", laid_packhorse_trace_faces), ("packhorse/model.steps", laid_packhorse_model_steps)] }
def ModelKnownSaid : Prop := modelKnownRow.holds Tryd.pinned (OpenSpec.ofChange modelKnownSpec)

/-- ITS FALSE NEIGHBOUR: 'it returns false'. Refute it at one input. -/
def modelKnownWrong : ChangeSpec := { name := "modelKnown", fn := fun _ => fun
  | [] => { results := [.lit (.bool false)], args := [] }
  | _ => none }
def ModelKnownWrongFalsely : Prop := modelKnownRow.holds Tryd.pinned (OpenSpec.ofChange modelKnownWrong)

/-- 'packhorselaw40.ModelBegins': WHATEVER THE INPUT: true; the input reads as it did. -/
def modelBeginsSpec : ChangeSpec := { name := "modelBegins", fn := fun _ => fun
  | [d1, d2, d3, d4] => { results := [.lit (.bool true)], args := [d1, d2, d3, d4] }
  | _ => none }
def modelBeginsRow : OpenClaim := { program := "ytcjlbpndgjapiaadoor", sum := "e1a9f9af2f1d6ff05c050cbf8f1dce5a9636813014fc83d135bad029fb5e3085", func := "packhorse/packhorselaw40.ModelBegins", spec := "modelBegins", unfollowed := true, recurses := true, named := ["packhorse/trace.faces", "packhorse/model.steps"], plainKeys := false, apart := false, laid := [("packhorse/trace.faces", laid_packhorse_trace_faces), ("packhorse/model.steps", laid_packhorse_model_steps)] }
def ModelBeginsSaid : Prop := modelBeginsRow.holds Tryd.pinned (OpenSpec.ofChange modelBeginsSpec)

/-- ITS FALSE NEIGHBOUR: 'it returns false'. Refute it at one input. -/
def modelBeginsWrong : ChangeSpec := { name := "modelBegins", fn := fun _ => fun
  | [d1, d2, d3, d4] => { results := [.lit (.bool false)], args := [d1, d2, d3, d4] }
  | _ => none }
def ModelBeginsWrongFalsely : Prop := modelBeginsRow.holds Tryd.pinned (OpenSpec.ofChange modelBeginsWrong)

/-- 'packhorselaw40.ModelOnce': WHATEVER THE INPUT: true; the input reads as it did. -/
def modelOnceSpec : ChangeSpec := { name := "modelOnce", fn := fun _ => fun
  | [d1, d2] => { results := [.lit (.bool true)], args := [d1, d2] }
  | _ => none }
def modelOnceRow : OpenClaim := { program := "ytcjlbpndgjapiaadoor", sum := "e1a9f9af2f1d6ff05c050cbf8f1dce5a9636813014fc83d135bad029fb5e3085", func := "packhorse/packhorselaw40.ModelOnce", spec := "modelOnce", unfollowed := true, recurses := true, named := ["packhorse/trace.faces", "packhorse/model.steps"], plainKeys := false, apart := false, laid := [("packhorse/trace.faces", laid_packhorse_trace_faces), ("packhorse/model.steps", laid_packhorse_model_steps)] }
def ModelOnceSaid : Prop := modelOnceRow.holds Tryd.pinned (OpenSpec.ofChange modelOnceSpec)

/-- ITS FALSE NEIGHBOUR: 'it returns false'. Refute it at one input. -/
def modelOnceWrong : ChangeSpec := { name := "modelOnce", fn := fun _ => fun
  | [d1, d2] => { results := [.lit (.bool false)], args := [d1, d2] }
  | _ => none }
def ModelOnceWrongFalsely : Prop := modelOnceRow.holds Tryd.pinned (OpenSpec.ofChange modelOnceWrong)

/-- 'packhorselaw40.ModelApart': WHATEVER THE INPUT: true; the input reads as it did. -/
def modelApartSpec : ChangeSpec := { name := "modelApart", fn := fun _ => fun
  | [d1, d2, d3] => { results := [.lit (.bool true)], args := [d1, d2, d3] }
  | _ => none }
def modelApartRow : OpenClaim := { program := "ytcjlbpndgjapiaadoor", sum := "e1a9f9af2f1d6ff05c050cbf8f1dce5a9636813014fc83d135bad029fb5e3085", func := "packhorse/packhorselaw40.ModelApart", spec := "modelApart", unfollowed := true, recurses := true, named := ["packhorse/trace.faces", "packhorse/model.steps"], plainKeys := false, apart := false, laid := [("packhorse/trace.faces", laid_packhorse_trace_faces), ("packhorse/model.steps", laid_packhorse_model_steps)] }
def ModelApartSaid : Prop := modelApartRow.holds Tryd.pinned (OpenSpec.ofChange modelApartSpec)

/-- ITS FALSE NEIGHBOUR: 'it returns false'. Refute it at one input. -/
def modelApartWrong : ChangeSpec := { name := "modelApart", fn := fun _ => fun
  | [d1, d2, d3] => { results := [.lit (.bool false)], args := [d1, d2, d3] }
  | _ => none }
def ModelApartWrongFalsely : Prop := modelApartRow.holds Tryd.pinned (OpenSpec.ofChange modelApartWrong)

/- THE SECOND FORM. 'bulk': how many values and letters a reading holds, each counted each time it is reached (what is shared counts as often as it is met; a slice's spare places count too). A statement '..UptoSaid' is the law's where the arguments, and the package variables that the reading takes, are together of bulk at most 1048576: NARROWER than '..Said'. Prove '..Said' where nothing that the law and all that it calls make is longer than what came in: it says more and counts as full. Else prove '..UptoSaid'. A law counts once. -/
mutual
def uptoBulk {H : Type} : DataW H → Nat
  | .lit (.string bytes) => bytes.length + 1
  | .lit _ => 1
  | .nil => 1
  | .ptr d => uptoBulk d + 1
  | .slice elems spare => uptoBulkAll elems + uptoBulkAll spare + 1
  | .agg parts => uptoBulkAll parts + 1
  | .iface _ d => uptoBulk d + 1
  | .map entries => uptoBulkEntries entries + 1
  | .held _ => 1
def uptoBulkAll {H : Type} : List (DataW H) → Nat
  | [] => 0
  | d :: r => uptoBulk d + uptoBulkAll r
def uptoBulkEntries {H : Type} : List (Lit × DataW H) → Nat
  | [] => 0
  | x :: r => uptoBulkEntry x + uptoBulkEntries r
def uptoBulkEntry {H : Type} : Lit × DataW H → Nat
  | (.string bytes, d) => bytes.length + uptoBulk d + 1
  | (_, d) => uptoBulk d + 1
 end
def uptoSmall : (H : Type) → List (DataW H) → Bool := fun _ ds => decide (uptoBulkAll ds ≤ 1048576)
def OpenSpec.upto (s : _root_.Go.ChangeSpec) : _root_.Go.OpenSpec := { _root_.Go.OpenSpec.ofChange s with cond := some uptoSmall }

/-- 'packhorselaw40.ModelAllows', WHERE WHAT IT READS IS OF BULK AT MOST 1048576: true; the input reads as it did. -/
def modelAllowsUptoRow : OpenClaim := { program := "ytcjlbpndgjapiaadoor", sum := "e1a9f9af2f1d6ff05c050cbf8f1dce5a9636813014fc83d135bad029fb5e3085", func := "packhorse/packhorselaw40.ModelAllows", spec := "modelAllows", unfollowed := true, recurses := true, named := ["packhorse/trace.faces", "packhorse/model.steps"], plainKeys := false, apart := false, laid := [("packhorse/trace.faces", laid_packhorse_trace_faces), ("packhorse/model.steps", laid_packhorse_model_steps)], narrowed := true }
def ModelAllowsUptoSaid : Prop := modelAllowsUptoRow.holds Tryd.pinned (OpenSpec.upto modelAllowsSpec)

/-- 'packhorselaw40.ModelHolds', WHERE WHAT IT READS IS OF BULK AT MOST 1048576: true; the input reads as it did. -/
def modelHoldsUptoRow : OpenClaim := { program := "ytcjlbpndgjapiaadoor", sum := "e1a9f9af2f1d6ff05c050cbf8f1dce5a9636813014fc83d135bad029fb5e3085", func := "packhorse/packhorselaw40.ModelHolds", spec := "modelHolds", unfollowed := true, recurses := true, named := ["packhorse/trace.faces", "packhorse/model.steps"], plainKeys := false, apart := false, laid := [("packhorse/trace.faces", laid_packhorse_trace_faces), ("packhorse/model.steps", laid_packhorse_model_steps)], narrowed := true }
def ModelHoldsUptoSaid : Prop := modelHoldsUptoRow.holds Tryd.pinned (OpenSpec.upto modelHoldsSpec)

/-- 'packhorselaw40.ModelKnown', WHERE WHAT IT READS IS OF BULK AT MOST 1048576: true; the input reads as it did. -/
def modelKnownUptoRow : OpenClaim := { program := "ytcjlbpndgjapiaadoor", sum := "e1a9f9af2f1d6ff05c050cbf8f1dce5a9636813014fc83d135bad029fb5e3085", func := "packhorse/packhorselaw40.ModelKnown", spec := "modelKnown", unfollowed := true, recurses := true, named := ["packhorse/trace.faces", "packhorse/model.steps"], plainKeys := false, apart := false, laid := [("packhorse/trace.faces", laid_packhorse_trace_faces), ("packhorse/model.steps", laid_packhorse_model_steps)], narrowed := true }
def ModelKnownUptoSaid : Prop := modelKnownUptoRow.holds Tryd.pinned (OpenSpec.upto modelKnownSpec)

/-- 'packhorselaw40.ModelBegins', WHERE WHAT IT READS IS OF BULK AT MOST 1048576: true; the input reads as it did. -/
def modelBeginsUptoRow : OpenClaim := { program := "ytcjlbpndgjapiaadoor", sum := "e1a9f9af2f1d6ff05c050cbf8f1dce5a9636813014fc83d135bad029fb5e3085", func := "packhorse/packhorselaw40.ModelBegins", spec := "modelBegins", unfollowed := true, recurses := true, named := ["packhorse/trace.faces", "packhorse/model.steps"], plainKeys := false, apart := false, laid := [("packhorse/trace.faces", laid_packhorse_trace_faces), ("packhorse/model.steps", laid_packhorse_model_steps)], narrowed := true }
def ModelBeginsUptoSaid : Prop := modelBeginsUptoRow.holds Tryd.pinned (OpenSpec.upto modelBeginsSpec)

/-- 'packhorselaw40.ModelOnce', WHERE WHAT IT READS IS OF BULK AT MOST 1048576: true; the input reads as it did. -/
def modelOnceUptoRow : OpenClaim := { program := "ytcjlbpndgjapiaadoor", sum := "e1a9f9af2f1d6ff05c050cbf8f1dce5a9636813014fc83d135bad029fb5e3085", func := "packhorse/packhorselaw40.ModelOnce", spec := "modelOnce", unfollowed := true, recurses := true, named := ["packhorse/trace.faces", "packhorse/model.steps"], plainKeys := false, apart := false, laid := [("packhorse/trace.faces", laid_packhorse_trace_faces), ("packhorse/model.steps", laid_packhorse_model_steps)], narrowed := true }
def ModelOnceUptoSaid : Prop := modelOnceUptoRow.holds Tryd.pinned (OpenSpec.upto modelOnceSpec)

/-- 'packhorselaw40.ModelApart', WHERE WHAT IT READS IS OF BULK AT MOST 1048576: true; the input reads as it did. -/
def modelApartUptoRow : OpenClaim := { program := "ytcjlbpndgjapiaadoor", sum := "e1a9f9af2f1d6ff05c050cbf8f1dce5a9636813014fc83d135bad029fb5e3085", func := "packhorse/packhorselaw40.ModelApart", spec := "modelApart", unfollowed := true, recurses := true, named := ["packhorse/trace.faces", "packhorse/model.steps"], plainKeys := false, apart := false, laid := [("packhorse/trace.faces", laid_packhorse_trace_faces), ("packhorse/model.steps", laid_packhorse_model_steps)], narrowed := true }
def ModelApartUptoSaid : Prop := modelApartUptoRow.holds Tryd.pinned (OpenSpec.upto modelApartSpec)

end Rows
end Go.Proofs.YtcjlbpndgjapiaaDoor
