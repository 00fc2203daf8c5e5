/-
  No cell of these rows narrows 'for every input' (looked for: loops, veiled, ifaces, maps, wideKeys, modest, calm, conditions, laid).
  DERIVED. THE GIVEN ROWS OF THIS SEAT. 7 by the template 'for every input the law returns true; each argument reads behind the call as it read before'; 0 by the template 'total and deterministic' (their statements: YtgmfifilgbbogaaTotals.lean).
  GIVEN WITH THE SEED: the statements are not yours to turn. If you find one false, say at which input.
  Laid BY PROGRAM, IN A SANDBOX (cutbox-rows.mjs): the forced cells as the released guide's own fill.sh prints them over the translation a5549ffaf34aab43… (all of the seat's roots in one cut). By AI agents, Wed Nov 11 2026. No macro, syntax, notation, axiom, sorry.
-/
import Derived.Test.YtgmfifilgbbogaaChecked
import GoSem.Claim
import GoSem.ClaimJoined
import GoSem.ClaimMapViews
import Derived.JoinedTies
import Derived.KernelRfl
namespace Go.Proofs.Ytgmfifilgbbogaa
/- THE CELL 'sum', in the pinned program and in every row, IS THE sha256 OF THE DUMP (.gsa) THAT YtgmfifilgbbogaaProg.lean LOADS. Nothing in Lean hashes anything: it is a label: what it is worth is what the hold of that sum in a sandbox is worth. -/
noncomputable def Try.pinned : Pinned := { name := "ytgmfifilgbbogaa", sum := "a5549ffaf34aab433b804a02b247414f62eca920a073efe70afc4fd8a5363f14", checked := Try.checked }
namespace Rows
def none {H : Type} : Left H := { results := [], args := [] }

/-- 'packhorselaw24.RouteBest': WHATEVER THE INPUT: true; the input reads as it did. -/
def routeBestSpec : ChangeSpec := { name := "routeBest", fn := fun _ => fun
  | [d1, d2, d3, d4, d5] => { results := [.lit (.bool true)], args := [d1, d2, d3, d4, d5] }
  | _ => none }
def routeBestRow : OpenClaim := { program := "ytgmfifilgbbogaa", sum := "a5549ffaf34aab433b804a02b247414f62eca920a073efe70afc4fd8a5363f14", func := "packhorse/packhorselaw24.RouteBest", spec := "routeBest", unfollowed := true, recurses := true, plainKeys := false, apart := false }
def RouteBestSaid : Prop := routeBestRow.holds Try.pinned (OpenSpec.ofChange routeBestSpec)

/-- ITS FALSE NEIGHBOUR: 'it returns false'. Refute it at one input. -/
def routeBestWrong : ChangeSpec := { name := "routeBest", fn := fun _ => fun
  | [d1, d2, d3, d4, d5] => { results := [.lit (.bool false)], args := [d1, d2, d3, d4, d5] }
  | _ => none }
def RouteBestWrongFalsely : Prop := routeBestRow.holds Try.pinned (OpenSpec.ofChange routeBestWrong)

/-- 'packhorselaw24.RouteChecks': WHATEVER THE INPUT: true; the input reads as it did. -/
def routeChecksSpec : ChangeSpec := { name := "routeChecks", fn := fun _ => fun
  | [d1, d2, d3, d4, d5, d6, d7] => { results := [.lit (.bool true)], args := [d1, d2, d3, d4, d5, d6, d7] }
  | _ => none }
def routeChecksRow : OpenClaim := { program := "ytgmfifilgbbogaa", sum := "a5549ffaf34aab433b804a02b247414f62eca920a073efe70afc4fd8a5363f14", func := "packhorse/packhorselaw24.RouteChecks", spec := "routeChecks", unfollowed := true, recurses := true, plainKeys := false, apart := false }
def RouteChecksSaid : Prop := routeChecksRow.holds Try.pinned (OpenSpec.ofChange routeChecksSpec)

/-- ITS FALSE NEIGHBOUR: 'it returns false'. Refute it at one input. -/
def routeChecksWrong : ChangeSpec := { name := "routeChecks", fn := fun _ => fun
  | [d1, d2, d3, d4, d5, d6, d7] => { results := [.lit (.bool false)], args := [d1, d2, d3, d4, d5, d6, d7] }
  | _ => none }
def RouteChecksWrongFalsely : Prop := routeChecksRow.holds Try.pinned (OpenSpec.ofChange routeChecksWrong)

/-- 'packhorselaw24.RouteKnown': WHATEVER THE INPUT: true; the input reads as it did. -/
def routeKnownSpec : ChangeSpec := { name := "routeKnown", fn := fun _ => fun
  | [] => { results := [.lit (.bool true)], args := [] }
  | _ => none }
def routeKnownRow : OpenClaim := { program := "ytgmfifilgbbogaa", sum := "a5549ffaf34aab433b804a02b247414f62eca920a073efe70afc4fd8a5363f14", func := "packhorse/packhorselaw24.RouteKnown", spec := "routeKnown", unfollowed := true, recurses := true, plainKeys := false, apart := false }
def RouteKnownSaid : Prop := routeKnownRow.holds Try.pinned (OpenSpec.ofChange routeKnownSpec)

/-- ITS FALSE NEIGHBOUR: 'it returns false'. Refute it at one input. -/
def routeKnownWrong : ChangeSpec := { name := "routeKnown", fn := fun _ => fun
  | [] => { results := [.lit (.bool false)], args := [] }
  | _ => none }
def RouteKnownWrongFalsely : Prop := routeKnownRow.holds Try.pinned (OpenSpec.ofChange routeKnownWrong)

/-- 'packhorselaw24.RouteTrue': WHATEVER THE INPUT: true; the input reads as it did. -/
def routeTrueSpec : ChangeSpec := { name := "routeTrue", fn := fun _ => fun
  | [d1, d2] => { results := [.lit (.bool true)], args := [d1, d2] }
  | _ => none }
def routeTrueRow : OpenClaim := { program := "ytgmfifilgbbogaa", sum := "a5549ffaf34aab433b804a02b247414f62eca920a073efe70afc4fd8a5363f14", func := "packhorse/packhorselaw24.RouteTrue", spec := "routeTrue", unfollowed := true, recurses := true, plainKeys := false, apart := false }
def RouteTrueSaid : Prop := routeTrueRow.holds Try.pinned (OpenSpec.ofChange routeTrueSpec)

/-- ITS FALSE NEIGHBOUR: 'it returns false'. Refute it at one input. -/
def routeTrueWrong : ChangeSpec := { name := "routeTrue", fn := fun _ => fun
  | [d1, d2] => { results := [.lit (.bool false)], args := [d1, d2] }
  | _ => none }
def RouteTrueWrongFalsely : Prop := routeTrueRow.holds Try.pinned (OpenSpec.ofChange routeTrueWrong)

/-- 'packhorselaw24.RouteFirst': WHATEVER THE INPUT: true; the input reads as it did. -/
def routeFirstSpec : ChangeSpec := { name := "routeFirst", fn := fun _ => fun
  | [d1, d2, d3, d4] => { results := [.lit (.bool true)], args := [d1, d2, d3, d4] }
  | _ => none }
def routeFirstRow : OpenClaim := { program := "ytgmfifilgbbogaa", sum := "a5549ffaf34aab433b804a02b247414f62eca920a073efe70afc4fd8a5363f14", func := "packhorse/packhorselaw24.RouteFirst", spec := "routeFirst", unfollowed := true, recurses := true, plainKeys := false, apart := false }
def RouteFirstSaid : Prop := routeFirstRow.holds Try.pinned (OpenSpec.ofChange routeFirstSpec)

/-- ITS FALSE NEIGHBOUR: 'it returns false'. Refute it at one input. -/
def routeFirstWrong : ChangeSpec := { name := "routeFirst", fn := fun _ => fun
  | [d1, d2, d3, d4] => { results := [.lit (.bool false)], args := [d1, d2, d3, d4] }
  | _ => none }
def RouteFirstWrongFalsely : Prop := routeFirstRow.holds Try.pinned (OpenSpec.ofChange routeFirstWrong)

/-- 'packhorselaw24.RouteLater': WHATEVER THE INPUT: true; the input reads as it did. -/
def routeLaterSpec : ChangeSpec := { name := "routeLater", fn := fun _ => fun
  | [d1, d2, d3, d4, d5] => { results := [.lit (.bool true)], args := [d1, d2, d3, d4, d5] }
  | _ => none }
def routeLaterRow : OpenClaim := { program := "ytgmfifilgbbogaa", sum := "a5549ffaf34aab433b804a02b247414f62eca920a073efe70afc4fd8a5363f14", func := "packhorse/packhorselaw24.RouteLater", spec := "routeLater", unfollowed := true, recurses := true, plainKeys := false, apart := false }
def RouteLaterSaid : Prop := routeLaterRow.holds Try.pinned (OpenSpec.ofChange routeLaterSpec)

/-- ITS FALSE NEIGHBOUR: 'it returns false'. Refute it at one input. -/
def routeLaterWrong : ChangeSpec := { name := "routeLater", fn := fun _ => fun
  | [d1, d2, d3, d4, d5] => { results := [.lit (.bool false)], args := [d1, d2, d3, d4, d5] }
  | _ => none }
def RouteLaterWrongFalsely : Prop := routeLaterRow.holds Try.pinned (OpenSpec.ofChange routeLaterWrong)

/-- 'packhorselaw24.RouteRest': WHATEVER THE INPUT: true; the input reads as it did. -/
def routeRestSpec : ChangeSpec := { name := "routeRest", fn := fun _ => fun
  | [d1, d2, d3] => { results := [.lit (.bool true)], args := [d1, d2, d3] }
  | _ => none }
def routeRestRow : OpenClaim := { program := "ytgmfifilgbbogaa", sum := "a5549ffaf34aab433b804a02b247414f62eca920a073efe70afc4fd8a5363f14", func := "packhorse/packhorselaw24.RouteRest", spec := "routeRest", unfollowed := true, recurses := true, plainKeys := false, apart := false }
def RouteRestSaid : Prop := routeRestRow.holds Try.pinned (OpenSpec.ofChange routeRestSpec)

/-- ITS FALSE NEIGHBOUR: 'it returns false'. Refute it at one input. -/
def routeRestWrong : ChangeSpec := { name := "routeRest", fn := fun _ => fun
  | [d1, d2, d3] => { results := [.lit (.bool false)], args := [d1, d2, d3] }
  | _ => none }
def RouteRestWrongFalsely : Prop := routeRestRow.holds Try.pinned (OpenSpec.ofChange routeRestWrong)

/- THE SECOND FORM. 'bulk': how many values and letters a reading holds, each counted each time it is reached (what is shared counts as often as it is met; a slice's spare places count too). A statement '..UptoSaid' is the law's where the arguments, and the package variables that the reading takes, are together of bulk at most 1048576: NARROWER than '..Said'. Prove '..Said' where nothing that the law and all that it calls make is longer than what came in: it says more and counts as full. Else prove '..UptoSaid'. A law counts once. -/
mutual
def uptoBulk {H : Type} : DataW H → Nat
  | .lit (.string bytes) => bytes.length + 1
  | .lit _ => 1
  | .nil => 1
  | .ptr d => uptoBulk d + 1
  | .slice elems spare => uptoBulkAll elems + uptoBulkAll spare + 1
  | .agg parts => uptoBulkAll parts + 1
  | .iface _ d => uptoBulk d + 1
  | .map entries => uptoBulkEntries entries + 1
  | .held _ => 1
def uptoBulkAll {H : Type} : List (DataW H) → Nat
  | [] => 0
  | d :: r => uptoBulk d + uptoBulkAll r
def uptoBulkEntries {H : Type} : List (Lit × DataW H) → Nat
  | [] => 0
  | x :: r => uptoBulkEntry x + uptoBulkEntries r
def uptoBulkEntry {H : Type} : Lit × DataW H → Nat
  | (.string bytes, d) => bytes.length + uptoBulk d + 1
  | (_, d) => uptoBulk d + 1
 end
def uptoSmall : (H : Type) → List (DataW H) → Bool := fun _ ds => decide (uptoBulkAll ds ≤ 1048576)
def OpenSpec.upto (s : _root_.Go.ChangeSpec) : _root_.Go.OpenSpec := { _root_.Go.OpenSpec.ofChange s with cond := some uptoSmall }

/-- 'packhorselaw24.RouteBest', WHERE WHAT IT READS IS OF BULK AT MOST 1048576: true; the input reads as it did. -/
def routeBestUptoRow : OpenClaim := { program := "ytgmfifilgbbogaa", sum := "a5549ffaf34aab433b804a02b247414f62eca920a073efe70afc4fd8a5363f14", func := "packhorse/packhorselaw24.RouteBest", spec := "routeBest", unfollowed := true, recurses := true, plainKeys := false, apart := false, narrowed := true }
def RouteBestUptoSaid : Prop := routeBestUptoRow.holds Try.pinned (OpenSpec.upto routeBestSpec)

/-- 'packhorselaw24.RouteChecks', WHERE WHAT IT READS IS OF BULK AT MOST 1048576: true; the input reads as it did. -/
def routeChecksUptoRow : OpenClaim := { program := "ytgmfifilgbbogaa", sum := "a5549ffaf34aab433b804a02b247414f62eca920a073efe70afc4fd8a5363f14", func := "packhorse/packhorselaw24.RouteChecks", spec := "routeChecks", unfollowed := true, recurses := true, plainKeys := false, apart := false, narrowed := true }
def RouteChecksUptoSaid : Prop := routeChecksUptoRow.holds Try.pinned (OpenSpec.upto routeChecksSpec)

/-- 'packhorselaw24.RouteKnown', WHERE WHAT IT READS IS OF BULK AT MOST 1048576: true; the input reads as it did. -/
def routeKnownUptoRow : OpenClaim := { program := "ytgmfifilgbbogaa", sum := "a5549ffaf34aab433b804a02b247414f62eca920a073efe70afc4fd8a5363f14", func := "packhorse/packhorselaw24.RouteKnown", spec := "routeKnown", unfollowed := true, recurses := true, plainKeys := false, apart := false, narrowed := true }
def RouteKnownUptoSaid : Prop := routeKnownUptoRow.holds Try.pinned (OpenSpec.upto routeKnownSpec)

/-- 'packhorselaw24.RouteTrue', WHERE WHAT IT READS IS OF BULK AT MOST 1048576: true; the input reads as it did. -/
def routeTrueUptoRow : OpenClaim := { program := "ytgmfifilgbbogaa", sum := "a5549ffaf34aab433b804a02b247414f62eca920a073efe70afc4fd8a5363f14", func := "packhorse/packhorselaw24.RouteTrue", spec := "routeTrue", unfollowed := true, recurses := true, plainKeys := false, apart := false, narrowed := true }
def RouteTrueUptoSaid : Prop := routeTrueUptoRow.holds Try.pinned (OpenSpec.upto routeTrueSpec)

/-- 'packhorselaw24.RouteFirst', WHERE WHAT IT READS IS OF BULK AT MOST 1048576: true; the input reads as it did. -/
def routeFirstUptoRow : OpenClaim := { program := "ytgmfifilgbbogaa", sum := "a5549ffaf34aab433b804a02b247414f62eca920a073efe70afc4fd8a5363f14", func := "packhorse/packhorselaw24.RouteFirst", spec := "routeFirst", unfollowed := true, recurses := true, plainKeys := false, apart := false, narrowed := true }
def RouteFirstUptoSaid : Prop := routeFirstUptoRow.holds Try.pinned (OpenSpec.upto routeFirstSpec)

/-- 'packhorselaw24.RouteLater', WHERE WHAT IT READS IS OF BULK AT MOST 1048576: true; the input reads as it did. -/
def routeLaterUptoRow : OpenClaim := { program := "ytgmfifilgbbogaa", sum := "a5549ffaf34aab433b804a02b247414f62eca920a073efe70afc4fd8a5363f14", func := "packhorse/packhorselaw24.RouteLater", spec := "routeLater", unfollowed := true, recurses := true, plainKeys := false, apart := false, narrowed := true }
def RouteLaterUptoSaid : Prop := routeLaterUptoRow.holds Try.pinned (OpenSpec.upto routeLaterSpec)

/-- 'packhorselaw24.RouteRest', WHERE WHAT IT READS IS OF BULK AT MOST 1048576: true; the input reads as it did. -/
def routeRestUptoRow : OpenClaim := { program := "ytgmfifilgbbogaa", sum := "a5549ffaf34aab433b804a02b247414f62eca920a073efe70afc4fd8a5363f14", func := "packhorse/packhorselaw24.RouteRest", spec := "routeRest", unfollowed := true, recurses := true, plainKeys := false, apart := false, narrowed := true }
def RouteRestUptoSaid : Prop := routeRestUptoRow.holds Try.pinned (OpenSpec.upto routeRestSpec)

end Rows
end Go.Proofs.Ytgmfifilgbbogaa
