/-
  NARROWER THAN 'FOR EVERY INPUT', by the rows' own cells (each row's printed sentence says how): LinkPushes: laid · LinkFaults: laid · LinkKnown: laid · LinkOrder: laid · LinkChanges: laid · LinkRuns: laid · LinkScript: laid.
  DERIVED. THE GIVEN ROWS OF THIS SEAT. 7 by the template 'for every input the law returns true; each argument reads behind the call as it read before'; 0 by the template 'total and deterministic' (their statements: YtimkeafpefkheaaDoorTotals.lean).
  GIVEN WITH THE SEED: the statements are not yours to turn. If you find one false, say at which input.
  Laid BY PROGRAM, IN A SANDBOX (cutbox-rows.mjs): the forced cells as the released guide's own fill.sh prints them over the translation 99b72e723a6b6c80… (all of the seat's roots in one cut). By AI agents, Wed Nov 11 2026. No macro, syntax, notation, axiom, sorry.
-/
import Derived.Test.YtimkeafpefkheaaDoorChecked
import GoSem.Claim
import GoSem.ClaimJoined
import GoSem.ClaimMapViews
import Derived.JoinedTies
import Derived.KernelRfl
namespace Go.Proofs.YtimkeafpefkheaaDoor
/- THE CELL 'sum', in the pinned program and in every row, IS THE sha256 OF THE DUMP (.gsa) THAT YtimkeafpefkheaaDoorProg.lean LOADS. Nothing in Lean hashes anything: it is a label: what it is worth is what the hold of that sum in a sandbox is worth. -/
noncomputable def Tryd.pinned : Pinned := { name := "ytimkeafpefkheaadoor", sum := "99b72e723a6b6c80d36780994ed26ccb09e0a8a24135b8f2e06c52eaef3e6295", checked := Tryd.checked }
namespace Rows
def none {H : Type} : Left H := { results := [], args := [] }

/- WHAT THE LISTED PACKAGE-LEVEL VARIABLES READ AS WHEN THE CALL BEGINS. Each datum BY PROGRAM (the guide's laid-datum.mjs) off the statement by which the dump's own 'gosem.cut.vars' lays the variable. In a bare row this is a premise. The card (YtimkeafpefkheaaDoorCards.lean) ties it to the program's text. -/
def laid_packhorse_link_kinds {H : Type} : DataW H := .iface "func table" (.agg [.agg [.nil, .nil], .agg [.iface "func" (.lit (.string [112, 97, 99, 107, 104, 111, 114, 115, 101, 47, 108, 105, 110, 107, 46, 107, 105, 110, 100, 115, 36, 49])), .iface "func" (.lit (.string [112, 97, 99, 107, 104, 111, 114, 115, 101, 47, 108, 105, 110, 107, 46, 107, 105, 110, 100, 115, 36, 50]))], .agg [.iface "func" (.lit (.string [112, 97, 99, 107, 104, 111, 114, 115, 101, 47, 108, 105, 110, 107, 46, 107, 105, 110, 100, 115, 36, 51])), .iface "func" (.lit (.string [112, 97, 99, 107, 104, 111, 114, 115, 101, 47, 108, 105, 110, 107, 46, 107, 105, 110, 100, 115, 36, 52]))], .agg [.iface "func" (.lit (.string [112, 97, 99, 107, 104, 111, 114, 115, 101, 47, 108, 105, 110, 107, 46, 107, 105, 110, 100, 115, 36, 53])), .iface "func" (.lit (.string [112, 97, 99, 107, 104, 111, 114, 115, 101, 47, 108, 105, 110, 107, 46, 107, 105, 110, 100, 115, 36, 54]))], .agg [.iface "func" (.lit (.string [112, 97, 99, 107, 104, 111, 114, 115, 101, 47, 108, 105, 110, 107, 46, 107, 105, 110, 100, 115, 36, 55])), .iface "func" (.lit (.string [112, 97, 99, 107, 104, 111, 114, 115, 101, 47, 108, 105, 110, 107, 46, 107, 105, 110, 100, 115, 36, 56]))], .agg [.iface "func" (.lit (.string [112, 97, 99, 107, 104, 111, 114, 115, 101, 47, 108, 105, 110, 107, 46, 107, 105, 110, 100, 115, 36, 57])), .iface "func" (.lit (.string [112, 97, 99, 107, 104, 111, 114, 115, 101, 47, 108, 105, 110, 107, 46, 107, 105, 110, 100, 115, 36, 49, 48]))]])

/-- 'packhorselaw36.LinkPushes': WHATEVER THE INPUT: true; the input reads as it did. -/
def linkPushesSpec : ChangeSpec := { name := "linkPushes", fn := fun _ => fun
  | [d1, d2, d3] => { results := [.lit (.bool true)], args := [d1, d2, d3] }
  | _ => none }
def linkPushesRow : OpenClaim := { program := "ytimkeafpefkheaadoor", sum := "99b72e723a6b6c80d36780994ed26ccb09e0a8a24135b8f2e06c52eaef3e6295", func := "packhorse/packhorselaw36.LinkPushes", spec := "linkPushes", unfollowed := true, recurses := true, named := ["packhorse/link.kinds"], apart := false, laid := [("packhorse/link.kinds", laid_packhorse_link_kinds)] }
def LinkPushesSaid : Prop := linkPushesRow.holds Tryd.pinned (OpenSpec.ofChange linkPushesSpec)

/-- ITS FALSE NEIGHBOUR: 'it returns false'. Refute it at one input. -/
def linkPushesWrong : ChangeSpec := { name := "linkPushes", fn := fun _ => fun
  | [d1, d2, d3] => { results := [.lit (.bool false)], args := [d1, d2, d3] }
  | _ => none }
def LinkPushesWrongFalsely : Prop := linkPushesRow.holds Tryd.pinned (OpenSpec.ofChange linkPushesWrong)

/-- 'packhorselaw36.LinkFaults': WHATEVER THE INPUT: true; the input reads as it did. -/
def linkFaultsSpec : ChangeSpec := { name := "linkFaults", fn := fun _ => fun
  | [d1, d2] => { results := [.lit (.bool true)], args := [d1, d2] }
  | _ => none }
def linkFaultsRow : OpenClaim := { program := "ytimkeafpefkheaadoor", sum := "99b72e723a6b6c80d36780994ed26ccb09e0a8a24135b8f2e06c52eaef3e6295", func := "packhorse/packhorselaw36.LinkFaults", spec := "linkFaults", unfollowed := true, recurses := true, named := ["packhorse/link.kinds"], apart := false, laid := [("packhorse/link.kinds", laid_packhorse_link_kinds)] }
def LinkFaultsSaid : Prop := linkFaultsRow.holds Tryd.pinned (OpenSpec.ofChange linkFaultsSpec)

/-- ITS FALSE NEIGHBOUR: 'it returns false'. Refute it at one input. -/
def linkFaultsWrong : ChangeSpec := { name := "linkFaults", fn := fun _ => fun
  | [d1, d2] => { results := [.lit (.bool false)], args := [d1, d2] }
  | _ => none }
def LinkFaultsWrongFalsely : Prop := linkFaultsRow.holds Tryd.pinned (OpenSpec.ofChange linkFaultsWrong)

/-- 'packhorselaw36.LinkKnown': WHATEVER THE INPUT: true; the input reads as it did. -/
def linkKnownSpec : ChangeSpec := { name := "linkKnown", fn := fun _ => fun
  | [] => { results := [.lit (.bool true)], args := [] }
  | _ => none }
def linkKnownRow : OpenClaim := { program := "ytimkeafpefkheaadoor", sum := "99b72e723a6b6c80d36780994ed26ccb09e0a8a24135b8f2e06c52eaef3e6295", func := "packhorse/packhorselaw36.LinkKnown", spec := "linkKnown", unfollowed := true, recurses := true, named := ["packhorse/link.kinds"], apart := false, laid := [("packhorse/link.kinds", laid_packhorse_link_kinds)] }
def LinkKnownSaid : Prop := linkKnownRow.holds Tryd.pinned (OpenSpec.ofChange linkKnownSpec)

/-- ITS FALSE NEIGHBOUR: 'it returns false'. Refute it at one input. -/
def linkKnownWrong : ChangeSpec := { name := "linkKnown", fn := fun _ => fun
  | [] => { results := [.lit (.bool false)], args := [] }
  | _ => none }
def LinkKnownWrongFalsely : Prop := linkKnownRow.holds Tryd.pinned (OpenSpec.ofChange linkKnownWrong)

/-- 'packhorselaw36.LinkOrder': WHATEVER THE INPUT: true; the input reads as it did. -/
def linkOrderSpec : ChangeSpec := { name := "linkOrder", fn := fun _ => fun
  | [d] => { results := [.lit (.bool true)], args := [d] }
  | _ => none }
def linkOrderRow : OpenClaim := { program := "ytimkeafpefkheaadoor", sum := "99b72e723a6b6c80d36780994ed26ccb09e0a8a24135b8f2e06c52eaef3e6295", func := "packhorse/packhorselaw36.LinkOrder", spec := "linkOrder", unfollowed := true, recurses := true, named := ["packhorse/link.kinds"], apart := false, laid := [("packhorse/link.kinds", laid_packhorse_link_kinds)] }
def LinkOrderSaid : Prop := linkOrderRow.holds Tryd.pinned (OpenSpec.ofChange linkOrderSpec)

/-- ITS FALSE NEIGHBOUR: 'it returns false'. Refute it at one input. -/
def linkOrderWrong : ChangeSpec := { name := "linkOrder", fn := fun _ => fun
  | [d] => { results := [.lit (.bool false)], args := [d] }
  | _ => none }
def LinkOrderWrongFalsely : Prop := linkOrderRow.holds Tryd.pinned (OpenSpec.ofChange linkOrderWrong)

/-- 'packhorselaw36.LinkChanges': WHATEVER THE INPUT: true; the input reads as it did. -/
def linkChangesSpec : ChangeSpec := { name := "linkChanges", fn := fun _ => fun
  | [d1, d2] => { results := [.lit (.bool true)], args := [d1, d2] }
  | _ => none }
def linkChangesRow : OpenClaim := { program := "ytimkeafpefkheaadoor", sum := "99b72e723a6b6c80d36780994ed26ccb09e0a8a24135b8f2e06c52eaef3e6295", func := "packhorse/packhorselaw36.LinkChanges", spec := "linkChanges", unfollowed := true, recurses := true, named := ["packhorse/link.kinds"], apart := false, laid := [("packhorse/link.kinds", laid_packhorse_link_kinds)] }
def LinkChangesSaid : Prop := linkChangesRow.holds Tryd.pinned (OpenSpec.ofChange linkChangesSpec)

/-- ITS FALSE NEIGHBOUR: 'it returns false'. Refute it at one input. -/
def linkChangesWrong : ChangeSpec := { name := "linkChanges", fn := fun _ => fun
  | [d1, d2] => { results := [.lit (.bool false)], args := [d1, d2] }
  | _ => none }
def LinkChangesWrongFalsely : Prop := linkChangesRow.holds Tryd.pinned (OpenSpec.ofChange linkChangesWrong)

/-- 'packhorselaw36.LinkRuns': WHATEVER THE INPUT: true; the input reads as it did. -/
def linkRunsSpec : ChangeSpec := { name := "linkRuns", fn := fun _ => fun
  | [d1, d2, d3] => { results := [.lit (.bool true)], args := [d1, d2, d3] }
  | _ => none }
def linkRunsRow : OpenClaim := { program := "ytimkeafpefkheaadoor", sum := "99b72e723a6b6c80d36780994ed26ccb09e0a8a24135b8f2e06c52eaef3e6295", func := "packhorse/packhorselaw36.LinkRuns", spec := "linkRuns", unfollowed := true, recurses := true, named := ["packhorse/link.kinds"], apart := false, laid := [("packhorse/link.kinds", laid_packhorse_link_kinds)] }
def LinkRunsSaid : Prop := linkRunsRow.holds Tryd.pinned (OpenSpec.ofChange linkRunsSpec)

/-- ITS FALSE NEIGHBOUR: 'it returns false'. Refute it at one input. -/
def linkRunsWrong : ChangeSpec := { name := "linkRuns", fn := fun _ => fun
  | [d1, d2, d3] => { results := [.lit (.bool false)], args := [d1, d2, d3] }
  | _ => none }
def LinkRunsWrongFalsely : Prop := linkRunsRow.holds Tryd.pinned (OpenSpec.ofChange linkRunsWrong)

/-- 'packhorselaw36.LinkScript': WHATEVER THE INPUT: true; the input reads as it did. -/
def linkScriptSpec : ChangeSpec := { name := "linkScript", fn := fun _ => fun
  | [d1, d2] => { results := [.lit (.bool true)], args := [d1, d2] }
  | _ => none }
def linkScriptRow : OpenClaim := { program := "ytimkeafpefkheaadoor", sum := "99b72e723a6b6c80d36780994ed26ccb09e0a8a24135b8f2e06c52eaef3e6295", func := "packhorse/packhorselaw36.LinkScript", spec := "linkScript", unfollowed := true, recurses := true, named := ["packhorse/link.kinds"], apart := false, laid := [("packhorse/link.kinds", laid_packhorse_link_kinds)] }
def LinkScriptSaid : Prop := linkScriptRow.holds Tryd.pinned (OpenSpec.ofChange linkScriptSpec)

/-- ITS FALSE NEIGHBOUR: 'it returns false'. Refute it at one input. -/
def linkScriptWrong : ChangeSpec := { name := "linkScript", fn := fun _ => fun
  | [d1, d2] => { results := [.lit (.bool false)], args := [d1, d2] }
  | _ => none }
def LinkScriptWrongFalsely : Prop := linkScriptRow.holds Tryd.pinned (OpenSpec.ofChange linkScriptWrong)

/- THE SECOND FORM. 'bulk': how many values and letters a reading holds, each counted each time it is reached (what is shared counts as often as it is met; a slice's spare places count too). A statement '..UptoSaid' is the law's where the arguments, and the package variables that the reading takes, are together of bulk at most 1048576: NARROWER than '..Said'. Prove '..Said' where nothing that the law and all that it calls make is longer than what came in: it says more and counts as full. Else prove '..UptoSaid'. A law counts once. -/
mutual
def uptoBulk {H : Type} : DataW H → Nat
  | .lit (.string bytes) => bytes.length + 1
  | .lit _ => 1
  | .nil => 1
  | .ptr d => uptoBulk d + 1
  | .slice elems spare => uptoBulkAll elems + uptoBulkAll spare + 1
  | .agg parts => uptoBulkAll parts + 1
  | .iface _ d => uptoBulk d + 1
  | .map entries => uptoBulkEntries entries + 1
  | .held _ => 1
def uptoBulkAll {H : Type} : List (DataW H) → Nat
  | [] => 0
  | d :: r => uptoBulk d + uptoBulkAll r
def uptoBulkEntries {H : Type} : List (Lit × DataW H) → Nat
  | [] => 0
  | x :: r => uptoBulkEntry x + uptoBulkEntries r
def uptoBulkEntry {H : Type} : Lit × DataW H → Nat
  | (.string bytes, d) => bytes.length + uptoBulk d + 1
  | (_, d) => uptoBulk d + 1
 end
def uptoSmall : (H : Type) → List (DataW H) → Bool := fun _ ds => decide (uptoBulkAll ds ≤ 1048576)
def OpenSpec.upto (s : _root_.Go.ChangeSpec) : _root_.Go.OpenSpec := { _root_.Go.OpenSpec.ofChange s with cond := some uptoSmall }

/-- 'packhorselaw36.LinkPushes', WHERE WHAT IT READS IS OF BULK AT MOST 1048576: true; the input reads as it did. -/
def linkPushesUptoRow : OpenClaim := { program := "ytimkeafpefkheaadoor", sum := "99b72e723a6b6c80d36780994ed26ccb09e0a8a24135b8f2e06c52eaef3e6295", func := "packhorse/packhorselaw36.LinkPushes", spec := "linkPushes", unfollowed := true, recurses := true, named := ["packhorse/link.kinds"], apart := false, laid := [("packhorse/link.kinds", laid_packhorse_link_kinds)], narrowed := true }
def LinkPushesUptoSaid : Prop := linkPushesUptoRow.holds Tryd.pinned (OpenSpec.upto linkPushesSpec)

/-- 'packhorselaw36.LinkFaults', WHERE WHAT IT READS IS OF BULK AT MOST 1048576: true; the input reads as it did. -/
def linkFaultsUptoRow : OpenClaim := { program := "ytimkeafpefkheaadoor", sum := "99b72e723a6b6c80d36780994ed26ccb09e0a8a24135b8f2e06c52eaef3e6295", func := "packhorse/packhorselaw36.LinkFaults", spec := "linkFaults", unfollowed := true, recurses := true, named := ["packhorse/link.kinds"], apart := false, laid := [("packhorse/link.kinds", laid_packhorse_link_kinds)], narrowed := true }
def LinkFaultsUptoSaid : Prop := linkFaultsUptoRow.holds Tryd.pinned (OpenSpec.upto linkFaultsSpec)

/-- 'packhorselaw36.LinkKnown', WHERE WHAT IT READS IS OF BULK AT MOST 1048576: true; the input reads as it did. -/
def linkKnownUptoRow : OpenClaim := { program := "ytimkeafpefkheaadoor", sum := "99b72e723a6b6c80d36780994ed26ccb09e0a8a24135b8f2e06c52eaef3e6295", func := "packhorse/packhorselaw36.LinkKnown", spec := "linkKnown", unfollowed := true, recurses := true, named := ["packhorse/link.kinds"], apart := false, laid := [("packhorse/link.kinds", laid_packhorse_link_kinds)], narrowed := true }
def LinkKnownUptoSaid : Prop := linkKnownUptoRow.holds Tryd.pinned (OpenSpec.upto linkKnownSpec)

/-- 'packhorselaw36.LinkOrder', WHERE WHAT IT READS IS OF BULK AT MOST 1048576: true; the input reads as it did. -/
def linkOrderUptoRow : OpenClaim := { program := "ytimkeafpefkheaadoor", sum := "99b72e723a6b6c80d36780994ed26ccb09e0a8a24135b8f2e06c52eaef3e6295", func := "packhorse/packhorselaw36.LinkOrder", spec := "linkOrder", unfollowed := true, recurses := true, named := ["packhorse/link.kinds"], apart := false, laid := [("packhorse/link.kinds", laid_packhorse_link_kinds)], narrowed := true }
def LinkOrderUptoSaid : Prop := linkOrderUptoRow.holds Tryd.pinned (OpenSpec.upto linkOrderSpec)

/-- 'packhorselaw36.LinkChanges', WHERE WHAT IT READS IS OF BULK AT MOST 1048576: true; the input reads as it did. -/
def linkChangesUptoRow : OpenClaim := { program := "ytimkeafpefkheaadoor", sum := "99b72e723a6b6c80d36780994ed26ccb09e0a8a24135b8f2e06c52eaef3e6295", func := "packhorse/packhorselaw36.LinkChanges", spec := "linkChanges", unfollowed := true, recurses := true, named := ["packhorse/link.kinds"], apart := false, laid := [("packhorse/link.kinds", laid_packhorse_link_kinds)], narrowed := true }
def LinkChangesUptoSaid : Prop := linkChangesUptoRow.holds Tryd.pinned (OpenSpec.upto linkChangesSpec)

/-- 'packhorselaw36.LinkRuns', WHERE WHAT IT READS IS OF BULK AT MOST 1048576: true; the input reads as it did. -/
def linkRunsUptoRow : OpenClaim := { program := "ytimkeafpefkheaadoor", sum := "99b72e723a6b6c80d36780994ed26ccb09e0a8a24135b8f2e06c52eaef3e6295", func := "packhorse/packhorselaw36.LinkRuns", spec := "linkRuns", unfollowed := true, recurses := true, named := ["packhorse/link.kinds"], apart := false, laid := [("packhorse/link.kinds", laid_packhorse_link_kinds)], narrowed := true }
def LinkRunsUptoSaid : Prop := linkRunsUptoRow.holds Tryd.pinned (OpenSpec.upto linkRunsSpec)

/-- 'packhorselaw36.LinkScript', WHERE WHAT IT READS IS OF BULK AT MOST 1048576: true; the input reads as it did. -/
def linkScriptUptoRow : OpenClaim := { program := "ytimkeafpefkheaadoor", sum := "99b72e723a6b6c80d36780994ed26ccb09e0a8a24135b8f2e06c52eaef3e6295", func := "packhorse/packhorselaw36.LinkScript", spec := "linkScript", unfollowed := true, recurses := true, named := ["packhorse/link.kinds"], apart := false, laid := [("packhorse/link.kinds", laid_packhorse_link_kinds)], narrowed := true }
def LinkScriptUptoSaid : Prop := linkScriptUptoRow.holds Tryd.pinned (OpenSpec.upto linkScriptSpec)

end Rows
end Go.Proofs.YtimkeafpefkheaaDoor
