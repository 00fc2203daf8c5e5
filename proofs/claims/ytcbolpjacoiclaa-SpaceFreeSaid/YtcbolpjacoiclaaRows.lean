/-
  No cell of these rows narrows 'for every input' (looked for: loops, veiled, ifaces, maps, wideKeys, modest, calm, conditions, laid).
  DERIVED. THE GIVEN ROWS OF THIS SEAT. 6 by the template 'for every input the law returns true; each argument reads behind the call as it read before'; 0 by the template 'total and deterministic' (their statements: YtcbolpjacoiclaaTotals.lean).
  GIVEN WITH THE SEED: the statements are not yours to turn. If you find one false, say at which input.
  Laid BY PROGRAM, IN A SANDBOX (cutbox-rows.mjs): the forced cells as the released guide's own fill.sh prints them over the translation 3f5686df139778ea… (all of the seat's roots in one cut). By AI agents, Wed Nov 11 2026. No macro, syntax, notation, axiom, sorry.
-/
import Derived.Test.YtcbolpjacoiclaaChecked
import GoSem.Claim
import GoSem.ClaimJoined
import GoSem.ClaimMapViews
import Derived.JoinedTies
import Derived.KernelRfl
namespace Go.Proofs.Ytcbolpjacoiclaa
/- THE CELL 'sum', in the pinned program and in every row, IS THE sha256 OF THE DUMP (.gsa) THAT YtcbolpjacoiclaaProg.lean LOADS. Nothing in Lean hashes anything: it is a label: what it is worth is what the hold of that sum in a sandbox is worth. -/
noncomputable def Try.pinned : Pinned := { name := "ytcbolpjacoiclaa", sum := "3f5686df139778ea3c81eccc691ac93d19cb0092217c57f2688c52aa3635bd5d", checked := Try.checked }
namespace Rows
def none {H : Type} : Left H := { results := [], args := [] }

/-- 'packhorselaw14.SpaceFree': WHATEVER THE INPUT: true; the input reads as it did. -/
def spaceFreeSpec : ChangeSpec := { name := "spaceFree", fn := fun _ => fun
  | [d1, d2] => { results := [.lit (.bool true)], args := [d1, d2] }
  | _ => none }
def spaceFreeRow : OpenClaim := { program := "ytcbolpjacoiclaa", sum := "3f5686df139778ea3c81eccc691ac93d19cb0092217c57f2688c52aa3635bd5d", func := "packhorse/packhorselaw14.SpaceFree", spec := "spaceFree", apart := false }
def SpaceFreeSaid : Prop := spaceFreeRow.holds Try.pinned (OpenSpec.ofChange spaceFreeSpec)

/-- ITS FALSE NEIGHBOUR: 'it returns false'. Refute it at one input. -/
def spaceFreeWrong : ChangeSpec := { name := "spaceFree", fn := fun _ => fun
  | [d1, d2] => { results := [.lit (.bool false)], args := [d1, d2] }
  | _ => none }
def SpaceFreeWrongFalsely : Prop := spaceFreeRow.holds Try.pinned (OpenSpec.ofChange spaceFreeWrong)

/-- 'packhorselaw14.SpaceSteps': WHATEVER THE INPUT: true; the input reads as it did. -/
def spaceStepsSpec : ChangeSpec := { name := "spaceSteps", fn := fun _ => fun
  | [d1, d2, d3] => { results := [.lit (.bool true)], args := [d1, d2, d3] }
  | _ => none }
def spaceStepsRow : OpenClaim := { program := "ytcbolpjacoiclaa", sum := "3f5686df139778ea3c81eccc691ac93d19cb0092217c57f2688c52aa3635bd5d", func := "packhorse/packhorselaw14.SpaceSteps", spec := "spaceSteps", apart := false }
def SpaceStepsSaid : Prop := spaceStepsRow.holds Try.pinned (OpenSpec.ofChange spaceStepsSpec)

/-- ITS FALSE NEIGHBOUR: 'it returns false'. Refute it at one input. -/
def spaceStepsWrong : ChangeSpec := { name := "spaceSteps", fn := fun _ => fun
  | [d1, d2, d3] => { results := [.lit (.bool false)], args := [d1, d2, d3] }
  | _ => none }
def SpaceStepsWrongFalsely : Prop := spaceStepsRow.holds Try.pinned (OpenSpec.ofChange spaceStepsWrong)

/-- 'packhorselaw14.SpaceUndo': WHATEVER THE INPUT: true; the input reads as it did. -/
def spaceUndoSpec : ChangeSpec := { name := "spaceUndo", fn := fun _ => fun
  | [d1, d2, d3] => { results := [.lit (.bool true)], args := [d1, d2, d3] }
  | _ => none }
def spaceUndoRow : OpenClaim := { program := "ytcbolpjacoiclaa", sum := "3f5686df139778ea3c81eccc691ac93d19cb0092217c57f2688c52aa3635bd5d", func := "packhorse/packhorselaw14.SpaceUndo", spec := "spaceUndo", apart := false }
def SpaceUndoSaid : Prop := spaceUndoRow.holds Try.pinned (OpenSpec.ofChange spaceUndoSpec)

/-- ITS FALSE NEIGHBOUR: 'it returns false'. Refute it at one input. -/
def spaceUndoWrong : ChangeSpec := { name := "spaceUndo", fn := fun _ => fun
  | [d1, d2, d3] => { results := [.lit (.bool false)], args := [d1, d2, d3] }
  | _ => none }
def SpaceUndoWrongFalsely : Prop := spaceUndoRow.holds Try.pinned (OpenSpec.ofChange spaceUndoWrong)

/-- 'packhorselaw14.SpaceSwaps': WHATEVER THE INPUT: true; the input reads as it did. -/
def spaceSwapsSpec : ChangeSpec := { name := "spaceSwaps", fn := fun _ => fun
  | [d1, d2, d3] => { results := [.lit (.bool true)], args := [d1, d2, d3] }
  | _ => none }
def spaceSwapsRow : OpenClaim := { program := "ytcbolpjacoiclaa", sum := "3f5686df139778ea3c81eccc691ac93d19cb0092217c57f2688c52aa3635bd5d", func := "packhorse/packhorselaw14.SpaceSwaps", spec := "spaceSwaps", apart := false }
def SpaceSwapsSaid : Prop := spaceSwapsRow.holds Try.pinned (OpenSpec.ofChange spaceSwapsSpec)

/-- ITS FALSE NEIGHBOUR: 'it returns false'. Refute it at one input. -/
def spaceSwapsWrong : ChangeSpec := { name := "spaceSwaps", fn := fun _ => fun
  | [d1, d2, d3] => { results := [.lit (.bool false)], args := [d1, d2, d3] }
  | _ => none }
def SpaceSwapsWrongFalsely : Prop := spaceSwapsRow.holds Try.pinned (OpenSpec.ofChange spaceSwapsWrong)

/-- 'packhorselaw14.SpaceSums': WHATEVER THE INPUT: true; the input reads as it did. -/
def spaceSumsSpec : ChangeSpec := { name := "spaceSums", fn := fun _ => fun
  | [d1, d2] => { results := [.lit (.bool true)], args := [d1, d2] }
  | _ => none }
def spaceSumsRow : OpenClaim := { program := "ytcbolpjacoiclaa", sum := "3f5686df139778ea3c81eccc691ac93d19cb0092217c57f2688c52aa3635bd5d", func := "packhorse/packhorselaw14.SpaceSums", spec := "spaceSums", apart := false }
def SpaceSumsSaid : Prop := spaceSumsRow.holds Try.pinned (OpenSpec.ofChange spaceSumsSpec)

/-- ITS FALSE NEIGHBOUR: 'it returns false'. Refute it at one input. -/
def spaceSumsWrong : ChangeSpec := { name := "spaceSums", fn := fun _ => fun
  | [d1, d2] => { results := [.lit (.bool false)], args := [d1, d2] }
  | _ => none }
def SpaceSumsWrongFalsely : Prop := spaceSumsRow.holds Try.pinned (OpenSpec.ofChange spaceSumsWrong)

/-- 'packhorselaw14.SpaceKnown': WHATEVER THE INPUT: true; the input reads as it did. -/
def spaceKnownSpec : ChangeSpec := { name := "spaceKnown", fn := fun _ => fun
  | [] => { results := [.lit (.bool true)], args := [] }
  | _ => none }
def spaceKnownRow : OpenClaim := { program := "ytcbolpjacoiclaa", sum := "3f5686df139778ea3c81eccc691ac93d19cb0092217c57f2688c52aa3635bd5d", func := "packhorse/packhorselaw14.SpaceKnown", spec := "spaceKnown", apart := false }
def SpaceKnownSaid : Prop := spaceKnownRow.holds Try.pinned (OpenSpec.ofChange spaceKnownSpec)

/-- ITS FALSE NEIGHBOUR: 'it returns false'. Refute it at one input. -/
def spaceKnownWrong : ChangeSpec := { name := "spaceKnown", fn := fun _ => fun
  | [] => { results := [.lit (.bool false)], args := [] }
  | _ => none }
def SpaceKnownWrongFalsely : Prop := spaceKnownRow.holds Try.pinned (OpenSpec.ofChange spaceKnownWrong)

/- THE SECOND FORM. 'bulk': how many values and letters a reading holds, each counted each time it is reached (what is shared counts as often as it is met; a slice's spare places count too). A statement '..UptoSaid' is the law's where the arguments, and the package variables that the reading takes, are together of bulk at most 1048576: NARROWER than '..Said'. Prove '..Said' where nothing that the law and all that it calls make is longer than what came in: it says more and counts as full. Else prove '..UptoSaid'. A law counts once. -/
mutual
def uptoBulk {H : Type} : DataW H → Nat
  | .lit (.string bytes) => bytes.length + 1
  | .lit _ => 1
  | .nil => 1
  | .ptr d => uptoBulk d + 1
  | .slice elems spare => uptoBulkAll elems + uptoBulkAll spare + 1
  | .agg parts => uptoBulkAll parts + 1
  | .iface _ d => uptoBulk d + 1
  | .map entries => uptoBulkEntries entries + 1
  | .held _ => 1
def uptoBulkAll {H : Type} : List (DataW H) → Nat
  | [] => 0
  | d :: r => uptoBulk d + uptoBulkAll r
def uptoBulkEntries {H : Type} : List (Lit × DataW H) → Nat
  | [] => 0
  | x :: r => uptoBulkEntry x + uptoBulkEntries r
def uptoBulkEntry {H : Type} : Lit × DataW H → Nat
  | (.string bytes, d) => bytes.length + uptoBulk d + 1
  | (_, d) => uptoBulk d + 1
 end
def uptoSmall : (H : Type) → List (DataW H) → Bool := fun _ ds => decide (uptoBulkAll ds ≤ 1048576)
def OpenSpec.upto (s : _root_.Go.ChangeSpec) : _root_.Go.OpenSpec := { _root_.Go.OpenSpec.ofChange s with cond := some uptoSmall }

/-- 'packhorselaw14.SpaceFree', WHERE WHAT IT READS IS OF BULK AT MOST 1048576: true; the input reads as it did. -/
def spaceFreeUptoRow : OpenClaim := { program := "ytcbolpjacoiclaa", sum := "3f5686df139778ea3c81eccc691ac93d19cb0092217c57f2688c52aa3635bd5d", func := "packhorse/packhorselaw14.SpaceFree", spec := "spaceFree", apart := false, narrowed := true }
def SpaceFreeUptoSaid : Prop := spaceFreeUptoRow.holds Try.pinned (OpenSpec.upto spaceFreeSpec)

/-- 'packhorselaw14.SpaceSteps', WHERE WHAT IT READS IS OF BULK AT MOST 1048576: true; the input reads as it did. -/
def spaceStepsUptoRow : OpenClaim := { program := "ytcbolpjacoiclaa", sum := "3f5686df139778ea3c81eccc691ac93d19cb0092217c57f2688c52aa3635bd5d", func := "packhorse/packhorselaw14.SpaceSteps", spec := "spaceSteps", apart := false, narrowed := true }
def SpaceStepsUptoSaid : Prop := spaceStepsUptoRow.holds Try.pinned (OpenSpec.upto spaceStepsSpec)

/-- 'packhorselaw14.SpaceUndo', WHERE WHAT IT READS IS OF BULK AT MOST 1048576: true; the input reads as it did. -/
def spaceUndoUptoRow : OpenClaim := { program := "ytcbolpjacoiclaa", sum := "3f5686df139778ea3c81eccc691ac93d19cb0092217c57f2688c52aa3635bd5d", func := "packhorse/packhorselaw14.SpaceUndo", spec := "spaceUndo", apart := false, narrowed := true }
def SpaceUndoUptoSaid : Prop := spaceUndoUptoRow.holds Try.pinned (OpenSpec.upto spaceUndoSpec)

/-- 'packhorselaw14.SpaceSwaps', WHERE WHAT IT READS IS OF BULK AT MOST 1048576: true; the input reads as it did. -/
def spaceSwapsUptoRow : OpenClaim := { program := "ytcbolpjacoiclaa", sum := "3f5686df139778ea3c81eccc691ac93d19cb0092217c57f2688c52aa3635bd5d", func := "packhorse/packhorselaw14.SpaceSwaps", spec := "spaceSwaps", apart := false, narrowed := true }
def SpaceSwapsUptoSaid : Prop := spaceSwapsUptoRow.holds Try.pinned (OpenSpec.upto spaceSwapsSpec)

/-- 'packhorselaw14.SpaceSums', WHERE WHAT IT READS IS OF BULK AT MOST 1048576: true; the input reads as it did. -/
def spaceSumsUptoRow : OpenClaim := { program := "ytcbolpjacoiclaa", sum := "3f5686df139778ea3c81eccc691ac93d19cb0092217c57f2688c52aa3635bd5d", func := "packhorse/packhorselaw14.SpaceSums", spec := "spaceSums", apart := false, narrowed := true }
def SpaceSumsUptoSaid : Prop := spaceSumsUptoRow.holds Try.pinned (OpenSpec.upto spaceSumsSpec)

/-- 'packhorselaw14.SpaceKnown', WHERE WHAT IT READS IS OF BULK AT MOST 1048576: true; the input reads as it did. -/
def spaceKnownUptoRow : OpenClaim := { program := "ytcbolpjacoiclaa", sum := "3f5686df139778ea3c81eccc691ac93d19cb0092217c57f2688c52aa3635bd5d", func := "packhorse/packhorselaw14.SpaceKnown", spec := "spaceKnown", apart := false, narrowed := true }
def SpaceKnownUptoSaid : Prop := spaceKnownUptoRow.holds Try.pinned (OpenSpec.upto spaceKnownSpec)

end Rows
end Go.Proofs.Ytcbolpjacoiclaa
