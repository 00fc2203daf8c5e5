/-
  No cell of these rows narrows 'for every input' (looked for: loops, veiled, ifaces, maps, wideKeys, modest, calm, conditions, laid).
  DERIVED. THE GIVEN ROWS OF THIS SEAT. 8 by the template 'for every input the law returns true; each argument reads behind the call as it read before'; 0 by the template 'total and deterministic' (their statements: YtigmhglkohjlhaaTotals.lean).
  GIVEN WITH THE SEED: the statements are not yours to turn. If you find one false, say at which input.
  Laid BY PROGRAM, IN A SANDBOX (cutbox-rows.mjs): the forced cells as the released guide's own fill.sh prints them over the translation bb83bfc85382a2f3… (all of the seat's roots in one cut). By AI agents, Wed Nov 11 2026. No macro, syntax, notation, axiom, sorry.
-/
import Derived.Test.YtigmhglkohjlhaaChecked
import GoSem.Claim
import GoSem.ClaimJoined
import GoSem.ClaimMapViews
import Derived.JoinedTies
import Derived.KernelRfl
namespace Go.Proofs.Ytigmhglkohjlhaa
/- THE CELL 'sum', in the pinned program and in every row, IS THE sha256 OF THE DUMP (.gsa) THAT YtigmhglkohjlhaaProg.lean LOADS. Nothing in Lean hashes anything: it is a label: what it is worth is what the hold of that sum in a sandbox is worth. -/
noncomputable def Try.pinned : Pinned := { name := "ytigmhglkohjlhaa", sum := "bb83bfc85382a2f348857ecd684d8390a4575516f1f0f429f7d063ec0cb9506f", checked := Try.checked }
namespace Rows
def none {H : Type} : Left H := { results := [], args := [] }

/-- 'packhorselaw17.WheelMakes': WHATEVER THE INPUT: true; the input reads as it did. -/
def wheelMakesSpec : ChangeSpec := { name := "wheelMakes", fn := fun _ => fun
  | [d] => { results := [.lit (.bool true)], args := [d] }
  | _ => none }
def wheelMakesRow : OpenClaim := { program := "ytigmhglkohjlhaa", sum := "bb83bfc85382a2f348857ecd684d8390a4575516f1f0f429f7d063ec0cb9506f", func := "packhorse/packhorselaw17.WheelMakes", spec := "wheelMakes", unfollowed := true, recurses := true, apart := false }
def WheelMakesSaid : Prop := wheelMakesRow.holds Try.pinned (OpenSpec.ofChange wheelMakesSpec)

/-- ITS FALSE NEIGHBOUR: 'it returns false'. Refute it at one input. -/
def wheelMakesWrong : ChangeSpec := { name := "wheelMakes", fn := fun _ => fun
  | [d] => { results := [.lit (.bool false)], args := [d] }
  | _ => none }
def WheelMakesWrongFalsely : Prop := wheelMakesRow.holds Try.pinned (OpenSpec.ofChange wheelMakesWrong)

/-- 'packhorselaw17.WheelHeaps': WHATEVER THE INPUT: true; the input reads as it did. -/
def wheelHeapsSpec : ChangeSpec := { name := "wheelHeaps", fn := fun _ => fun
  | [d1, d2, d3] => { results := [.lit (.bool true)], args := [d1, d2, d3] }
  | _ => none }
def wheelHeapsRow : OpenClaim := { program := "ytigmhglkohjlhaa", sum := "bb83bfc85382a2f348857ecd684d8390a4575516f1f0f429f7d063ec0cb9506f", func := "packhorse/packhorselaw17.WheelHeaps", spec := "wheelHeaps", unfollowed := true, recurses := true, apart := false }
def WheelHeapsSaid : Prop := wheelHeapsRow.holds Try.pinned (OpenSpec.ofChange wheelHeapsSpec)

/-- ITS FALSE NEIGHBOUR: 'it returns false'. Refute it at one input. -/
def wheelHeapsWrong : ChangeSpec := { name := "wheelHeaps", fn := fun _ => fun
  | [d1, d2, d3] => { results := [.lit (.bool false)], args := [d1, d2, d3] }
  | _ => none }
def WheelHeapsWrongFalsely : Prop := wheelHeapsRow.holds Try.pinned (OpenSpec.ofChange wheelHeapsWrong)

/-- 'packhorselaw17.WheelChanges': WHATEVER THE INPUT: true; the input reads as it did. -/
def wheelChangesSpec : ChangeSpec := { name := "wheelChanges", fn := fun _ => fun
  | [d1, d2, d3, d4] => { results := [.lit (.bool true)], args := [d1, d2, d3, d4] }
  | _ => none }
def wheelChangesRow : OpenClaim := { program := "ytigmhglkohjlhaa", sum := "bb83bfc85382a2f348857ecd684d8390a4575516f1f0f429f7d063ec0cb9506f", func := "packhorse/packhorselaw17.WheelChanges", spec := "wheelChanges", unfollowed := true, recurses := true, apart := false }
def WheelChangesSaid : Prop := wheelChangesRow.holds Try.pinned (OpenSpec.ofChange wheelChangesSpec)

/-- ITS FALSE NEIGHBOUR: 'it returns false'. Refute it at one input. -/
def wheelChangesWrong : ChangeSpec := { name := "wheelChanges", fn := fun _ => fun
  | [d1, d2, d3, d4] => { results := [.lit (.bool false)], args := [d1, d2, d3, d4] }
  | _ => none }
def WheelChangesWrongFalsely : Prop := wheelChangesRow.holds Try.pinned (OpenSpec.ofChange wheelChangesWrong)

/-- 'packhorselaw17.WheelKnown': WHATEVER THE INPUT: true; the input reads as it did. -/
def wheelKnownSpec : ChangeSpec := { name := "wheelKnown", fn := fun _ => fun
  | [] => { results := [.lit (.bool true)], args := [] }
  | _ => none }
def wheelKnownRow : OpenClaim := { program := "ytigmhglkohjlhaa", sum := "bb83bfc85382a2f348857ecd684d8390a4575516f1f0f429f7d063ec0cb9506f", func := "packhorse/packhorselaw17.WheelKnown", spec := "wheelKnown", unfollowed := true, recurses := true, apart := false }
def WheelKnownSaid : Prop := wheelKnownRow.holds Try.pinned (OpenSpec.ofChange wheelKnownSpec)

/-- ITS FALSE NEIGHBOUR: 'it returns false'. Refute it at one input. -/
def wheelKnownWrong : ChangeSpec := { name := "wheelKnown", fn := fun _ => fun
  | [] => { results := [.lit (.bool false)], args := [] }
  | _ => none }
def WheelKnownWrongFalsely : Prop := wheelKnownRow.holds Try.pinned (OpenSpec.ofChange wheelKnownWrong)

/-- 'packhorselaw17.WheelLater': WHATEVER THE INPUT: true; the input reads as it did. -/
def wheelLaterSpec : ChangeSpec := { name := "wheelLater", fn := fun _ => fun
  | [d1, d2, d3] => { results := [.lit (.bool true)], args := [d1, d2, d3] }
  | _ => none }
def wheelLaterRow : OpenClaim := { program := "ytigmhglkohjlhaa", sum := "bb83bfc85382a2f348857ecd684d8390a4575516f1f0f429f7d063ec0cb9506f", func := "packhorse/packhorselaw17.WheelLater", spec := "wheelLater", unfollowed := true, recurses := true, apart := false }
def WheelLaterSaid : Prop := wheelLaterRow.holds Try.pinned (OpenSpec.ofChange wheelLaterSpec)

/-- ITS FALSE NEIGHBOUR: 'it returns false'. Refute it at one input. -/
def wheelLaterWrong : ChangeSpec := { name := "wheelLater", fn := fun _ => fun
  | [d1, d2, d3] => { results := [.lit (.bool false)], args := [d1, d2, d3] }
  | _ => none }
def WheelLaterWrongFalsely : Prop := wheelLaterRow.holds Try.pinned (OpenSpec.ofChange wheelLaterWrong)

/-- 'packhorselaw17.WheelOrder': WHATEVER THE INPUT: true; the input reads as it did. -/
def wheelOrderSpec : ChangeSpec := { name := "wheelOrder", fn := fun _ => fun
  | [d] => { results := [.lit (.bool true)], args := [d] }
  | _ => none }
def wheelOrderRow : OpenClaim := { program := "ytigmhglkohjlhaa", sum := "bb83bfc85382a2f348857ecd684d8390a4575516f1f0f429f7d063ec0cb9506f", func := "packhorse/packhorselaw17.WheelOrder", spec := "wheelOrder", unfollowed := true, recurses := true, apart := false }
def WheelOrderSaid : Prop := wheelOrderRow.holds Try.pinned (OpenSpec.ofChange wheelOrderSpec)

/-- ITS FALSE NEIGHBOUR: 'it returns false'. Refute it at one input. -/
def wheelOrderWrong : ChangeSpec := { name := "wheelOrder", fn := fun _ => fun
  | [d] => { results := [.lit (.bool false)], args := [d] }
  | _ => none }
def WheelOrderWrongFalsely : Prop := wheelOrderRow.holds Try.pinned (OpenSpec.ofChange wheelOrderWrong)

/-- 'packhorselaw17.WheelDue': WHATEVER THE INPUT: true; the input reads as it did. -/
def wheelDueSpec : ChangeSpec := { name := "wheelDue", fn := fun _ => fun
  | [d1, d2] => { results := [.lit (.bool true)], args := [d1, d2] }
  | _ => none }
def wheelDueRow : OpenClaim := { program := "ytigmhglkohjlhaa", sum := "bb83bfc85382a2f348857ecd684d8390a4575516f1f0f429f7d063ec0cb9506f", func := "packhorse/packhorselaw17.WheelDue", spec := "wheelDue", unfollowed := true, recurses := true, apart := false }
def WheelDueSaid : Prop := wheelDueRow.holds Try.pinned (OpenSpec.ofChange wheelDueSpec)

/-- ITS FALSE NEIGHBOUR: 'it returns false'. Refute it at one input. -/
def wheelDueWrong : ChangeSpec := { name := "wheelDue", fn := fun _ => fun
  | [d1, d2] => { results := [.lit (.bool false)], args := [d1, d2] }
  | _ => none }
def WheelDueWrongFalsely : Prop := wheelDueRow.holds Try.pinned (OpenSpec.ofChange wheelDueWrong)

/-- 'packhorselaw17.WheelBack': WHATEVER THE INPUT: true; the input reads as it did. -/
def wheelBackSpec : ChangeSpec := { name := "wheelBack", fn := fun _ => fun
  | [d1, d2, d3] => { results := [.lit (.bool true)], args := [d1, d2, d3] }
  | _ => none }
def wheelBackRow : OpenClaim := { program := "ytigmhglkohjlhaa", sum := "bb83bfc85382a2f348857ecd684d8390a4575516f1f0f429f7d063ec0cb9506f", func := "packhorse/packhorselaw17.WheelBack", spec := "wheelBack", unfollowed := true, recurses := true, apart := false }
def WheelBackSaid : Prop := wheelBackRow.holds Try.pinned (OpenSpec.ofChange wheelBackSpec)

/-- ITS FALSE NEIGHBOUR: 'it returns false'. Refute it at one input. -/
def wheelBackWrong : ChangeSpec := { name := "wheelBack", fn := fun _ => fun
  | [d1, d2, d3] => { results := [.lit (.bool false)], args := [d1, d2, d3] }
  | _ => none }
def WheelBackWrongFalsely : Prop := wheelBackRow.holds Try.pinned (OpenSpec.ofChange wheelBackWrong)

/- THE SECOND FORM. 'bulk': how many values and letters a reading holds, each counted each time it is reached (what is shared counts as often as it is met; a slice's spare places count too). A statement '..UptoSaid' is the law's where the arguments, and the package variables that the reading takes, are together of bulk at most 1048576: NARROWER than '..Said'. Prove '..Said' where nothing that the law and all that it calls make is longer than what came in: it says more and counts as full. Else prove '..UptoSaid'. A law counts once. -/
mutual
def uptoBulk {H : Type} : DataW H → Nat
  | .lit (.string bytes) => bytes.length + 1
  | .lit _ => 1
  | .nil => 1
  | .ptr d => uptoBulk d + 1
  | .slice elems spare => uptoBulkAll elems + uptoBulkAll spare + 1
  | .agg parts => uptoBulkAll parts + 1
  | .iface _ d => uptoBulk d + 1
  | .map entries => uptoBulkEntries entries + 1
  | .held _ => 1
def uptoBulkAll {H : Type} : List (DataW H) → Nat
  | [] => 0
  | d :: r => uptoBulk d + uptoBulkAll r
def uptoBulkEntries {H : Type} : List (Lit × DataW H) → Nat
  | [] => 0
  | x :: r => uptoBulkEntry x + uptoBulkEntries r
def uptoBulkEntry {H : Type} : Lit × DataW H → Nat
  | (.string bytes, d) => bytes.length + uptoBulk d + 1
  | (_, d) => uptoBulk d + 1
 end
def uptoSmall : (H : Type) → List (DataW H) → Bool := fun _ ds => decide (uptoBulkAll ds ≤ 1048576)
def OpenSpec.upto (s : _root_.Go.ChangeSpec) : _root_.Go.OpenSpec := { _root_.Go.OpenSpec.ofChange s with cond := some uptoSmall }

/-- 'packhorselaw17.WheelMakes', WHERE WHAT IT READS IS OF BULK AT MOST 1048576: true; the input reads as it did. -/
def wheelMakesUptoRow : OpenClaim := { program := "ytigmhglkohjlhaa", sum := "bb83bfc85382a2f348857ecd684d8390a4575516f1f0f429f7d063ec0cb9506f", func := "packhorse/packhorselaw17.WheelMakes", spec := "wheelMakes", unfollowed := true, recurses := true, apart := false, narrowed := true }
def WheelMakesUptoSaid : Prop := wheelMakesUptoRow.holds Try.pinned (OpenSpec.upto wheelMakesSpec)

/-- 'packhorselaw17.WheelHeaps', WHERE WHAT IT READS IS OF BULK AT MOST 1048576: true; the input reads as it did. -/
def wheelHeapsUptoRow : OpenClaim := { program := "ytigmhglkohjlhaa", sum := "bb83bfc85382a2f348857ecd684d8390a4575516f1f0f429f7d063ec0cb9506f", func := "packhorse/packhorselaw17.WheelHeaps", spec := "wheelHeaps", unfollowed := true, recurses := true, apart := false, narrowed := true }
def WheelHeapsUptoSaid : Prop := wheelHeapsUptoRow.holds Try.pinned (OpenSpec.upto wheelHeapsSpec)

/-- 'packhorselaw17.WheelChanges', WHERE WHAT IT READS IS OF BULK AT MOST 1048576: true; the input reads as it did. -/
def wheelChangesUptoRow : OpenClaim := { program := "ytigmhglkohjlhaa", sum := "bb83bfc85382a2f348857ecd684d8390a4575516f1f0f429f7d063ec0cb9506f", func := "packhorse/packhorselaw17.WheelChanges", spec := "wheelChanges", unfollowed := true, recurses := true, apart := false, narrowed := true }
def WheelChangesUptoSaid : Prop := wheelChangesUptoRow.holds Try.pinned (OpenSpec.upto wheelChangesSpec)

/-- 'packhorselaw17.WheelKnown', WHERE WHAT IT READS IS OF BULK AT MOST 1048576: true; the input reads as it did. -/
def wheelKnownUptoRow : OpenClaim := { program := "ytigmhglkohjlhaa", sum := "bb83bfc85382a2f348857ecd684d8390a4575516f1f0f429f7d063ec0cb9506f", func := "packhorse/packhorselaw17.WheelKnown", spec := "wheelKnown", unfollowed := true, recurses := true, apart := false, narrowed := true }
def WheelKnownUptoSaid : Prop := wheelKnownUptoRow.holds Try.pinned (OpenSpec.upto wheelKnownSpec)

/-- 'packhorselaw17.WheelLater', WHERE WHAT IT READS IS OF BULK AT MOST 1048576: true; the input reads as it did. -/
def wheelLaterUptoRow : OpenClaim := { program := "ytigmhglkohjlhaa", sum := "bb83bfc85382a2f348857ecd684d8390a4575516f1f0f429f7d063ec0cb9506f", func := "packhorse/packhorselaw17.WheelLater", spec := "wheelLater", unfollowed := true, recurses := true, apart := false, narrowed := true }
def WheelLaterUptoSaid : Prop := wheelLaterUptoRow.holds Try.pinned (OpenSpec.upto wheelLaterSpec)

/-- 'packhorselaw17.WheelOrder', WHERE WHAT IT READS IS OF BULK AT MOST 1048576: true; the input reads as it did. -/
def wheelOrderUptoRow : OpenClaim := { program := "ytigmhglkohjlhaa", sum := "bb83bfc85382a2f348857ecd684d8390a4575516f1f0f429f7d063ec0cb9506f", func := "packhorse/packhorselaw17.WheelOrder", spec := "wheelOrder", unfollowed := true, recurses := true, apart := false, narrowed := true }
def WheelOrderUptoSaid : Prop := wheelOrderUptoRow.holds Try.pinned (OpenSpec.upto wheelOrderSpec)

/-- 'packhorselaw17.WheelDue', WHERE WHAT IT READS IS OF BULK AT MOST 1048576: true; the input reads as it did. -/
def wheelDueUptoRow : OpenClaim := { program := "ytigmhglkohjlhaa", sum := "bb83bfc85382a2f348857ecd684d8390a4575516f1f0f429f7d063ec0cb9506f", func := "packhorse/packhorselaw17.WheelDue", spec := "wheelDue", unfollowed := true, recurses := true, apart := false, narrowed := true }
def WheelDueUptoSaid : Prop := wheelDueUptoRow.holds Try.pinned (OpenSpec.upto wheelDueSpec)

/-- 'packhorselaw17.WheelBack', WHERE WHAT IT READS IS OF BULK AT MOST 1048576: true; the input reads as it did. -/
def wheelBackUptoRow : OpenClaim := { program := "ytigmhglkohjlhaa", sum := "bb83bfc85382a2f348857ecd684d8390a4575516f1f0f429f7d063ec0cb9506f", func := "packhorse/packhorselaw17.WheelBack", spec := "wheelBack", unfollowed := true, recurses := true, apart := false, narrowed := true }
def WheelBackUptoSaid : Prop := wheelBackUptoRow.holds Try.pinned (OpenSpec.upto wheelBackSpec)

end Rows
end Go.Proofs.Ytigmhglkohjlhaa
