/-
  No cell of these rows narrows 'for every input' (looked for: loops, veiled, ifaces, maps, wideKeys, modest, calm, conditions, laid).
  DERIVED. THE GIVEN ROWS OF THIS SEAT. 9 by the template 'for every input the law returns true; each argument reads behind the call as it read before'; 0 by the template 'total and deterministic' (their statements: YtnkpjfogjkjcfaaTotals.lean).
  GIVEN WITH THE SEED: the statements are not yours to turn. If you find one false, say at which input.
  Laid BY PROGRAM, IN A SANDBOX (cutbox-rows.mjs): the forced cells as the released guide's own fill.sh prints them over the translation d5aaf8f49f75e1f8… (all of the seat's roots in one cut). By AI agents, Wed Nov 11 2026. No macro, syntax, notation, axiom, sorry.
-/
import Derived.Test.YtnkpjfogjkjcfaaChecked
import GoSem.Claim
import GoSem.ClaimJoined
import GoSem.ClaimMapViews
import Derived.JoinedTies
import Derived.KernelRfl
namespace Go.Proofs.Ytnkpjfogjkjcfaa
/- THE CELL 'sum', in the pinned program and in every row, IS THE sha256 OF THE DUMP (.gsa) THAT YtnkpjfogjkjcfaaProg.lean LOADS. Nothing in Lean hashes anything: it is a label: what it is worth is what the hold of that sum in a sandbox is worth. -/
noncomputable def Try.pinned : Pinned := { name := "ytnkpjfogjkjcfaa", sum := "d5aaf8f49f75e1f88989cc29e1f3e3bfff546f436978e84335f6b5be9dfc945d", checked := Try.checked }
namespace Rows
def none {H : Type} : Left H := { results := [], args := [] }

/-- 'packhorselaw30.CustodyRuns': WHATEVER THE INPUT: true; the input reads as it did. -/
def custodyRunsSpec : ChangeSpec := { name := "custodyRuns", fn := fun _ => fun
  | [d1, d2] => { results := [.lit (.bool true)], args := [d1, d2] }
  | _ => none }
def custodyRunsRow : OpenClaim := { program := "ytnkpjfogjkjcfaa", sum := "d5aaf8f49f75e1f88989cc29e1f3e3bfff546f436978e84335f6b5be9dfc945d", func := "packhorse/packhorselaw30.CustodyRuns", spec := "custodyRuns", inPlace := ["slices.overlaps[packhorse/api.Tag]"], unfollowed := true, recurses := true, apart := false }
def CustodyRunsSaid : Prop := custodyRunsRow.holds Try.pinned (OpenSpec.ofChange custodyRunsSpec)

/-- ITS FALSE NEIGHBOUR: 'it returns false'. Refute it at one input. -/
def custodyRunsWrong : ChangeSpec := { name := "custodyRuns", fn := fun _ => fun
  | [d1, d2] => { results := [.lit (.bool false)], args := [d1, d2] }
  | _ => none }
def CustodyRunsWrongFalsely : Prop := custodyRunsRow.holds Try.pinned (OpenSpec.ofChange custodyRunsWrong)

/-- 'packhorselaw30.CustodyGone': WHATEVER THE INPUT: true; the input reads as it did. -/
def custodyGoneSpec : ChangeSpec := { name := "custodyGone", fn := fun _ => fun
  | [d1, d2] => { results := [.lit (.bool true)], args := [d1, d2] }
  | _ => none }
def custodyGoneRow : OpenClaim := { program := "ytnkpjfogjkjcfaa", sum := "d5aaf8f49f75e1f88989cc29e1f3e3bfff546f436978e84335f6b5be9dfc945d", func := "packhorse/packhorselaw30.CustodyGone", spec := "custodyGone", inPlace := ["slices.overlaps[packhorse/api.Tag]"], unfollowed := true, recurses := true, apart := false }
def CustodyGoneSaid : Prop := custodyGoneRow.holds Try.pinned (OpenSpec.ofChange custodyGoneSpec)

/-- ITS FALSE NEIGHBOUR: 'it returns false'. Refute it at one input. -/
def custodyGoneWrong : ChangeSpec := { name := "custodyGone", fn := fun _ => fun
  | [d1, d2] => { results := [.lit (.bool false)], args := [d1, d2] }
  | _ => none }
def CustodyGoneWrongFalsely : Prop := custodyGoneRow.holds Try.pinned (OpenSpec.ofChange custodyGoneWrong)

/-- 'packhorselaw30.CustodySteps': WHATEVER THE INPUT: true; the input reads as it did. -/
def custodyStepsSpec : ChangeSpec := { name := "custodySteps", fn := fun _ => fun
  | [d1, d2] => { results := [.lit (.bool true)], args := [d1, d2] }
  | _ => none }
def custodyStepsRow : OpenClaim := { program := "ytnkpjfogjkjcfaa", sum := "d5aaf8f49f75e1f88989cc29e1f3e3bfff546f436978e84335f6b5be9dfc945d", func := "packhorse/packhorselaw30.CustodySteps", spec := "custodySteps", inPlace := ["slices.overlaps[packhorse/api.Tag]"], unfollowed := true, recurses := true, apart := false }
def CustodyStepsSaid : Prop := custodyStepsRow.holds Try.pinned (OpenSpec.ofChange custodyStepsSpec)

/-- ITS FALSE NEIGHBOUR: 'it returns false'. Refute it at one input. -/
def custodyStepsWrong : ChangeSpec := { name := "custodySteps", fn := fun _ => fun
  | [d1, d2] => { results := [.lit (.bool false)], args := [d1, d2] }
  | _ => none }
def CustodyStepsWrongFalsely : Prop := custodyStepsRow.holds Try.pinned (OpenSpec.ofChange custodyStepsWrong)

/-- 'packhorselaw30.CustodyLooks': WHATEVER THE INPUT: true; the input reads as it did. -/
def custodyLooksSpec : ChangeSpec := { name := "custodyLooks", fn := fun _ => fun
  | [d] => { results := [.lit (.bool true)], args := [d] }
  | _ => none }
def custodyLooksRow : OpenClaim := { program := "ytnkpjfogjkjcfaa", sum := "d5aaf8f49f75e1f88989cc29e1f3e3bfff546f436978e84335f6b5be9dfc945d", func := "packhorse/packhorselaw30.CustodyLooks", spec := "custodyLooks", inPlace := ["slices.overlaps[packhorse/api.Tag]"], unfollowed := true, recurses := true, apart := false }
def CustodyLooksSaid : Prop := custodyLooksRow.holds Try.pinned (OpenSpec.ofChange custodyLooksSpec)

/-- ITS FALSE NEIGHBOUR: 'it returns false'. Refute it at one input. -/
def custodyLooksWrong : ChangeSpec := { name := "custodyLooks", fn := fun _ => fun
  | [d] => { results := [.lit (.bool false)], args := [d] }
  | _ => none }
def CustodyLooksWrongFalsely : Prop := custodyLooksRow.holds Try.pinned (OpenSpec.ofChange custodyLooksWrong)

/-- 'packhorselaw30.CustodyNever': WHATEVER THE INPUT: true; the input reads as it did. -/
def custodyNeverSpec : ChangeSpec := { name := "custodyNever", fn := fun _ => fun
  | [d1, d2] => { results := [.lit (.bool true)], args := [d1, d2] }
  | _ => none }
def custodyNeverRow : OpenClaim := { program := "ytnkpjfogjkjcfaa", sum := "d5aaf8f49f75e1f88989cc29e1f3e3bfff546f436978e84335f6b5be9dfc945d", func := "packhorse/packhorselaw30.CustodyNever", spec := "custodyNever", inPlace := ["slices.overlaps[packhorse/api.Tag]"], unfollowed := true, recurses := true, apart := false }
def CustodyNeverSaid : Prop := custodyNeverRow.holds Try.pinned (OpenSpec.ofChange custodyNeverSpec)

/-- ITS FALSE NEIGHBOUR: 'it returns false'. Refute it at one input. -/
def custodyNeverWrong : ChangeSpec := { name := "custodyNever", fn := fun _ => fun
  | [d1, d2] => { results := [.lit (.bool false)], args := [d1, d2] }
  | _ => none }
def CustodyNeverWrongFalsely : Prop := custodyNeverRow.holds Try.pinned (OpenSpec.ofChange custodyNeverWrong)

/-- 'packhorselaw30.CustodyArrives': WHATEVER THE INPUT: true; the input reads as it did. -/
def custodyArrivesSpec : ChangeSpec := { name := "custodyArrives", fn := fun _ => fun
  | [d1, d2] => { results := [.lit (.bool true)], args := [d1, d2] }
  | _ => none }
def custodyArrivesRow : OpenClaim := { program := "ytnkpjfogjkjcfaa", sum := "d5aaf8f49f75e1f88989cc29e1f3e3bfff546f436978e84335f6b5be9dfc945d", func := "packhorse/packhorselaw30.CustodyArrives", spec := "custodyArrives", inPlace := ["slices.overlaps[packhorse/api.Tag]"], unfollowed := true, recurses := true, apart := false }
def CustodyArrivesSaid : Prop := custodyArrivesRow.holds Try.pinned (OpenSpec.ofChange custodyArrivesSpec)

/-- ITS FALSE NEIGHBOUR: 'it returns false'. Refute it at one input. -/
def custodyArrivesWrong : ChangeSpec := { name := "custodyArrives", fn := fun _ => fun
  | [d1, d2] => { results := [.lit (.bool false)], args := [d1, d2] }
  | _ => none }
def CustodyArrivesWrongFalsely : Prop := custodyArrivesRow.holds Try.pinned (OpenSpec.ofChange custodyArrivesWrong)

/-- 'packhorselaw30.CustodyMakes': WHATEVER THE INPUT: true; the input reads as it did. -/
def custodyMakesSpec : ChangeSpec := { name := "custodyMakes", fn := fun _ => fun
  | [d1, d2, d3] => { results := [.lit (.bool true)], args := [d1, d2, d3] }
  | _ => none }
def custodyMakesRow : OpenClaim := { program := "ytnkpjfogjkjcfaa", sum := "d5aaf8f49f75e1f88989cc29e1f3e3bfff546f436978e84335f6b5be9dfc945d", func := "packhorse/packhorselaw30.CustodyMakes", spec := "custodyMakes", inPlace := ["slices.overlaps[packhorse/api.Tag]"], unfollowed := true, recurses := true, apart := false }
def CustodyMakesSaid : Prop := custodyMakesRow.holds Try.pinned (OpenSpec.ofChange custodyMakesSpec)

/-- ITS FALSE NEIGHBOUR: 'it returns false'. Refute it at one input. -/
def custodyMakesWrong : ChangeSpec := { name := "custodyMakes", fn := fun _ => fun
  | [d1, d2, d3] => { results := [.lit (.bool false)], args := [d1, d2, d3] }
  | _ => none }
def CustodyMakesWrongFalsely : Prop := custodyMakesRow.holds Try.pinned (OpenSpec.ofChange custodyMakesWrong)

/-- 'packhorselaw30.CustodyKnown': WHATEVER THE INPUT: true; the input reads as it did. -/
def custodyKnownSpec : ChangeSpec := { name := "custodyKnown", fn := fun _ => fun
  | [] => { results := [.lit (.bool true)], args := [] }
  | _ => none }
def custodyKnownRow : OpenClaim := { program := "ytnkpjfogjkjcfaa", sum := "d5aaf8f49f75e1f88989cc29e1f3e3bfff546f436978e84335f6b5be9dfc945d", func := "packhorse/packhorselaw30.CustodyKnown", spec := "custodyKnown", inPlace := ["slices.overlaps[packhorse/api.Tag]"], unfollowed := true, recurses := true, apart := false }
def CustodyKnownSaid : Prop := custodyKnownRow.holds Try.pinned (OpenSpec.ofChange custodyKnownSpec)

/-- ITS FALSE NEIGHBOUR: 'it returns false'. Refute it at one input. -/
def custodyKnownWrong : ChangeSpec := { name := "custodyKnown", fn := fun _ => fun
  | [] => { results := [.lit (.bool false)], args := [] }
  | _ => none }
def CustodyKnownWrongFalsely : Prop := custodyKnownRow.holds Try.pinned (OpenSpec.ofChange custodyKnownWrong)

/-- 'packhorselaw30.CustodyRash': WHATEVER THE INPUT: true; the input reads as it did. -/
def custodyRashSpec : ChangeSpec := { name := "custodyRash", fn := fun _ => fun
  | [d] => { results := [.lit (.bool true)], args := [d] }
  | _ => none }
def custodyRashRow : OpenClaim := { program := "ytnkpjfogjkjcfaa", sum := "d5aaf8f49f75e1f88989cc29e1f3e3bfff546f436978e84335f6b5be9dfc945d", func := "packhorse/packhorselaw30.CustodyRash", spec := "custodyRash", inPlace := ["slices.overlaps[packhorse/api.Tag]"], unfollowed := true, recurses := true, apart := false }
def CustodyRashSaid : Prop := custodyRashRow.holds Try.pinned (OpenSpec.ofChange custodyRashSpec)

/-- ITS FALSE NEIGHBOUR: 'it returns false'. Refute it at one input. -/
def custodyRashWrong : ChangeSpec := { name := "custodyRash", fn := fun _ => fun
  | [d] => { results := [.lit (.bool false)], args := [d] }
  | _ => none }
def CustodyRashWrongFalsely : Prop := custodyRashRow.holds Try.pinned (OpenSpec.ofChange custodyRashWrong)

/- THE SECOND FORM. 'bulk': how many values and letters a reading holds, each counted each time it is reached (what is shared counts as often as it is met; a slice's spare places count too). A statement '..UptoSaid' is the law's where the arguments, and the package variables that the reading takes, are together of bulk at most 1048576: NARROWER than '..Said'. Prove '..Said' where nothing that the law and all that it calls make is longer than what came in: it says more and counts as full. Else prove '..UptoSaid'. A law counts once. -/
mutual
def uptoBulk {H : Type} : DataW H → Nat
  | .lit (.string bytes) => bytes.length + 1
  | .lit _ => 1
  | .nil => 1
  | .ptr d => uptoBulk d + 1
  | .slice elems spare => uptoBulkAll elems + uptoBulkAll spare + 1
  | .agg parts => uptoBulkAll parts + 1
  | .iface _ d => uptoBulk d + 1
  | .map entries => uptoBulkEntries entries + 1
  | .held _ => 1
def uptoBulkAll {H : Type} : List (DataW H) → Nat
  | [] => 0
  | d :: r => uptoBulk d + uptoBulkAll r
def uptoBulkEntries {H : Type} : List (Lit × DataW H) → Nat
  | [] => 0
  | x :: r => uptoBulkEntry x + uptoBulkEntries r
def uptoBulkEntry {H : Type} : Lit × DataW H → Nat
  | (.string bytes, d) => bytes.length + uptoBulk d + 1
  | (_, d) => uptoBulk d + 1
 end
def uptoSmall : (H : Type) → List (DataW H) → Bool := fun _ ds => decide (uptoBulkAll ds ≤ 1048576)
def OpenSpec.upto (s : _root_.Go.ChangeSpec) : _root_.Go.OpenSpec := { _root_.Go.OpenSpec.ofChange s with cond := some uptoSmall }

/-- 'packhorselaw30.CustodyRuns', WHERE WHAT IT READS IS OF BULK AT MOST 1048576: true; the input reads as it did. -/
def custodyRunsUptoRow : OpenClaim := { program := "ytnkpjfogjkjcfaa", sum := "d5aaf8f49f75e1f88989cc29e1f3e3bfff546f436978e84335f6b5be9dfc945d", func := "packhorse/packhorselaw30.CustodyRuns", spec := "custodyRuns", inPlace := ["slices.overlaps[packhorse/api.Tag]"], unfollowed := true, recurses := true, apart := false, narrowed := true }
def CustodyRunsUptoSaid : Prop := custodyRunsUptoRow.holds Try.pinned (OpenSpec.upto custodyRunsSpec)

/-- 'packhorselaw30.CustodyGone', WHERE WHAT IT READS IS OF BULK AT MOST 1048576: true; the input reads as it did. -/
def custodyGoneUptoRow : OpenClaim := { program := "ytnkpjfogjkjcfaa", sum := "d5aaf8f49f75e1f88989cc29e1f3e3bfff546f436978e84335f6b5be9dfc945d", func := "packhorse/packhorselaw30.CustodyGone", spec := "custodyGone", inPlace := ["slices.overlaps[packhorse/api.Tag]"], unfollowed := true, recurses := true, apart := false, narrowed := true }
def CustodyGoneUptoSaid : Prop := custodyGoneUptoRow.holds Try.pinned (OpenSpec.upto custodyGoneSpec)

/-- 'packhorselaw30.CustodySteps', WHERE WHAT IT READS IS OF BULK AT MOST 1048576: true; the input reads as it did. -/
def custodyStepsUptoRow : OpenClaim := { program := "ytnkpjfogjkjcfaa", sum := "d5aaf8f49f75e1f88989cc29e1f3e3bfff546f436978e84335f6b5be9dfc945d", func := "packhorse/packhorselaw30.CustodySteps", spec := "custodySteps", inPlace := ["slices.overlaps[packhorse/api.Tag]"], unfollowed := true, recurses := true, apart := false, narrowed := true }
def CustodyStepsUptoSaid : Prop := custodyStepsUptoRow.holds Try.pinned (OpenSpec.upto custodyStepsSpec)

/-- 'packhorselaw30.CustodyLooks', WHERE WHAT IT READS IS OF BULK AT MOST 1048576: true; the input reads as it did. -/
def custodyLooksUptoRow : OpenClaim := { program := "ytnkpjfogjkjcfaa", sum := "d5aaf8f49f75e1f88989cc29e1f3e3bfff546f436978e84335f6b5be9dfc945d", func := "packhorse/packhorselaw30.CustodyLooks", spec := "custodyLooks", inPlace := ["slices.overlaps[packhorse/api.Tag]"], unfollowed := true, recurses := true, apart := false, narrowed := true }
def CustodyLooksUptoSaid : Prop := custodyLooksUptoRow.holds Try.pinned (OpenSpec.upto custodyLooksSpec)

/-- 'packhorselaw30.CustodyNever', WHERE WHAT IT READS IS OF BULK AT MOST 1048576: true; the input reads as it did. -/
def custodyNeverUptoRow : OpenClaim := { program := "ytnkpjfogjkjcfaa", sum := "d5aaf8f49f75e1f88989cc29e1f3e3bfff546f436978e84335f6b5be9dfc945d", func := "packhorse/packhorselaw30.CustodyNever", spec := "custodyNever", inPlace := ["slices.overlaps[packhorse/api.Tag]"], unfollowed := true, recurses := true, apart := false, narrowed := true }
def CustodyNeverUptoSaid : Prop := custodyNeverUptoRow.holds Try.pinned (OpenSpec.upto custodyNeverSpec)

/-- 'packhorselaw30.CustodyArrives', WHERE WHAT IT READS IS OF BULK AT MOST 1048576: true; the input reads as it did. -/
def custodyArrivesUptoRow : OpenClaim := { program := "ytnkpjfogjkjcfaa", sum := "d5aaf8f49f75e1f88989cc29e1f3e3bfff546f436978e84335f6b5be9dfc945d", func := "packhorse/packhorselaw30.CustodyArrives", spec := "custodyArrives", inPlace := ["slices.overlaps[packhorse/api.Tag]"], unfollowed := true, recurses := true, apart := false, narrowed := true }
def CustodyArrivesUptoSaid : Prop := custodyArrivesUptoRow.holds Try.pinned (OpenSpec.upto custodyArrivesSpec)

/-- 'packhorselaw30.CustodyMakes', WHERE WHAT IT READS IS OF BULK AT MOST 1048576: true; the input reads as it did. -/
def custodyMakesUptoRow : OpenClaim := { program := "ytnkpjfogjkjcfaa", sum := "d5aaf8f49f75e1f88989cc29e1f3e3bfff546f436978e84335f6b5be9dfc945d", func := "packhorse/packhorselaw30.CustodyMakes", spec := "custodyMakes", inPlace := ["slices.overlaps[packhorse/api.Tag]"], unfollowed := true, recurses := true, apart := false, narrowed := true }
def CustodyMakesUptoSaid : Prop := custodyMakesUptoRow.holds Try.pinned (OpenSpec.upto custodyMakesSpec)

/-- 'packhorselaw30.CustodyKnown', WHERE WHAT IT READS IS OF BULK AT MOST 1048576: true; the input reads as it did. -/
def custodyKnownUptoRow : OpenClaim := { program := "ytnkpjfogjkjcfaa", sum := "d5aaf8f49f75e1f88989cc29e1f3e3bfff546f436978e84335f6b5be9dfc945d", func := "packhorse/packhorselaw30.CustodyKnown", spec := "custodyKnown", inPlace := ["slices.overlaps[packhorse/api.Tag]"], unfollowed := true, recurses := true, apart := false, narrowed := true }
def CustodyKnownUptoSaid : Prop := custodyKnownUptoRow.holds Try.pinned (OpenSpec.upto custodyKnownSpec)

/-- 'packhorselaw30.CustodyRash', WHERE WHAT IT READS IS OF BULK AT MOST 1048576: true; the input reads as it did. -/
def custodyRashUptoRow : OpenClaim := { program := "ytnkpjfogjkjcfaa", sum := "d5aaf8f49f75e1f88989cc29e1f3e3bfff546f436978e84335f6b5be9dfc945d", func := "packhorse/packhorselaw30.CustodyRash", spec := "custodyRash", inPlace := ["slices.overlaps[packhorse/api.Tag]"], unfollowed := true, recurses := true, apart := false, narrowed := true }
def CustodyRashUptoSaid : Prop := custodyRashUptoRow.holds Try.pinned (OpenSpec.upto custodyRashSpec)

end Rows
end Go.Proofs.Ytnkpjfogjkjcfaa
