/-
  No cell of these rows narrows 'for every input' (looked for: loops, veiled, ifaces, maps, wideKeys, modest, calm, conditions, laid).
  DERIVED. THE GIVEN ROWS OF THIS SEAT. 15 by the template 'for every input the law returns true; each argument reads behind the call as it read before'; 0 by the template 'total and deterministic' (their statements: YtnbjdgjopdeolaaTotals.lean).
  GIVEN WITH THE SEED: the statements are not yours to turn. If you find one false, say at which input.
  Laid BY PROGRAM, IN A SANDBOX (cutbox-rows.mjs): the forced cells as the released guide's own fill.sh prints them over the translation 2a9023a2c56e084c… (all of the seat's roots in one cut). By AI agents, Wed Nov 11 2026. No macro, syntax, notation, axiom, sorry.
-/
import Derived.Test.YtnbjdgjopdeolaaChecked
import GoSem.Claim
import GoSem.ClaimJoined
import GoSem.ClaimMapViews
import Derived.JoinedTies
import Derived.KernelRfl
namespace Go.Proofs.Ytnbjdgjopdeolaa
/- THE CELL 'sum', in the pinned program and in every row, IS THE sha256 OF THE DUMP (.gsa) THAT YtnbjdgjopdeolaaProg.lean LOADS. Nothing in Lean hashes anything: it is a label: what it is worth is what the hold of that sum in a sandbox is worth. -/
noncomputable def Try.pinned : Pinned := { name := "ytnbjdgjopdeolaa", sum := "2a9023a2c56e084cdaa6cd77fb6135cfc95640f2ca37e0a5d61400bc22b2e9e9", checked := Try.checked }
namespace Rows
def none {H : Type} : Left H := { results := [], args := [] }

/-- 'packhorselaw23.VolumeBooks': WHATEVER THE INPUT: true; the input reads as it did. -/
def volumeBooksSpec : ChangeSpec := { name := "volumeBooks", fn := fun _ => fun
  | [d1, d2, d3, d4] => { results := [.lit (.bool true)], args := [d1, d2, d3, d4] }
  | _ => none }
def volumeBooksRow : OpenClaim := { program := "ytnbjdgjopdeolaa", sum := "2a9023a2c56e084cdaa6cd77fb6135cfc95640f2ca37e0a5d61400bc22b2e9e9", func := "packhorse/packhorselaw23.VolumeBooks", spec := "volumeBooks", plainKeys := false, apart := false }
def VolumeBooksSaid : Prop := volumeBooksRow.holds Try.pinned (OpenSpec.ofChange volumeBooksSpec)

/-- ITS FALSE NEIGHBOUR: 'it returns false'. Refute it at one input. -/
def volumeBooksWrong : ChangeSpec := { name := "volumeBooks", fn := fun _ => fun
  | [d1, d2, d3, d4] => { results := [.lit (.bool false)], args := [d1, d2, d3, d4] }
  | _ => none }
def VolumeBooksWrongFalsely : Prop := volumeBooksRow.holds Try.pinned (OpenSpec.ofChange volumeBooksWrong)

/-- 'packhorselaw26.ForecastLevels': WHATEVER THE INPUT: true; the input reads as it did. -/
def forecastLevelsSpec : ChangeSpec := { name := "forecastLevels", fn := fun _ => fun
  | [d1, d2, d3, d4] => { results := [.lit (.bool true)], args := [d1, d2, d3, d4] }
  | _ => none }
def forecastLevelsRow : OpenClaim := { program := "ytnbjdgjopdeolaa", sum := "2a9023a2c56e084cdaa6cd77fb6135cfc95640f2ca37e0a5d61400bc22b2e9e9", func := "packhorse/packhorselaw26.ForecastLevels", spec := "forecastLevels", unfollowed := true, recurses := true, plainKeys := false, apart := false }
def ForecastLevelsSaid : Prop := forecastLevelsRow.holds Try.pinned (OpenSpec.ofChange forecastLevelsSpec)

/-- ITS FALSE NEIGHBOUR: 'it returns false'. Refute it at one input. -/
def forecastLevelsWrong : ChangeSpec := { name := "forecastLevels", fn := fun _ => fun
  | [d1, d2, d3, d4] => { results := [.lit (.bool false)], args := [d1, d2, d3, d4] }
  | _ => none }
def ForecastLevelsWrongFalsely : Prop := forecastLevelsRow.holds Try.pinned (OpenSpec.ofChange forecastLevelsWrong)

/-- 'packhorselaw26.ForecastStill': WHATEVER THE INPUT: true; the input reads as it did. -/
def forecastStillSpec : ChangeSpec := { name := "forecastStill", fn := fun _ => fun
  | [d1, d2] => { results := [.lit (.bool true)], args := [d1, d2] }
  | _ => none }
def forecastStillRow : OpenClaim := { program := "ytnbjdgjopdeolaa", sum := "2a9023a2c56e084cdaa6cd77fb6135cfc95640f2ca37e0a5d61400bc22b2e9e9", func := "packhorse/packhorselaw26.ForecastStill", spec := "forecastStill", unfollowed := true, recurses := true, plainKeys := false, apart := false }
def ForecastStillSaid : Prop := forecastStillRow.holds Try.pinned (OpenSpec.ofChange forecastStillSpec)

/-- ITS FALSE NEIGHBOUR: 'it returns false'. Refute it at one input. -/
def forecastStillWrong : ChangeSpec := { name := "forecastStill", fn := fun _ => fun
  | [d1, d2] => { results := [.lit (.bool false)], args := [d1, d2] }
  | _ => none }
def ForecastStillWrongFalsely : Prop := forecastStillRow.holds Try.pinned (OpenSpec.ofChange forecastStillWrong)

/-- 'packhorselaw26.ForecastSteps': WHATEVER THE INPUT: true; the input reads as it did. -/
def forecastStepsSpec : ChangeSpec := { name := "forecastSteps", fn := fun _ => fun
  | [d1, d2] => { results := [.lit (.bool true)], args := [d1, d2] }
  | _ => none }
def forecastStepsRow : OpenClaim := { program := "ytnbjdgjopdeolaa", sum := "2a9023a2c56e084cdaa6cd77fb6135cfc95640f2ca37e0a5d61400bc22b2e9e9", func := "packhorse/packhorselaw26.ForecastSteps", spec := "forecastSteps", unfollowed := true, recurses := true, plainKeys := false, apart := false }
def ForecastStepsSaid : Prop := forecastStepsRow.holds Try.pinned (OpenSpec.ofChange forecastStepsSpec)

/-- ITS FALSE NEIGHBOUR: 'it returns false'. Refute it at one input. -/
def forecastStepsWrong : ChangeSpec := { name := "forecastSteps", fn := fun _ => fun
  | [d1, d2] => { results := [.lit (.bool false)], args := [d1, d2] }
  | _ => none }
def ForecastStepsWrongFalsely : Prop := forecastStepsRow.holds Try.pinned (OpenSpec.ofChange forecastStepsWrong)

/-- 'packhorselaw23.VolumeCarries': WHATEVER THE INPUT: true; the input reads as it did. -/
def volumeCarriesSpec : ChangeSpec := { name := "volumeCarries", fn := fun _ => fun
  | [d1, d2, d3, d4, d5, d6] => { results := [.lit (.bool true)], args := [d1, d2, d3, d4, d5, d6] }
  | _ => none }
def volumeCarriesRow : OpenClaim := { program := "ytnbjdgjopdeolaa", sum := "2a9023a2c56e084cdaa6cd77fb6135cfc95640f2ca37e0a5d61400bc22b2e9e9", func := "packhorse/packhorselaw23.VolumeCarries", spec := "volumeCarries", unfollowed := true, recurses := true, plainKeys := false, apart := false }
def VolumeCarriesSaid : Prop := volumeCarriesRow.holds Try.pinned (OpenSpec.ofChange volumeCarriesSpec)

/-- ITS FALSE NEIGHBOUR: 'it returns false'. Refute it at one input. -/
def volumeCarriesWrong : ChangeSpec := { name := "volumeCarries", fn := fun _ => fun
  | [d1, d2, d3, d4, d5, d6] => { results := [.lit (.bool false)], args := [d1, d2, d3, d4, d5, d6] }
  | _ => none }
def VolumeCarriesWrongFalsely : Prop := volumeCarriesRow.holds Try.pinned (OpenSpec.ofChange volumeCarriesWrong)

/-- 'packhorselaw23.VolumeKnown': WHATEVER THE INPUT: true; the input reads as it did. -/
def volumeKnownSpec : ChangeSpec := { name := "volumeKnown", fn := fun _ => fun
  | [] => { results := [.lit (.bool true)], args := [] }
  | _ => none }
def volumeKnownRow : OpenClaim := { program := "ytnbjdgjopdeolaa", sum := "2a9023a2c56e084cdaa6cd77fb6135cfc95640f2ca37e0a5d61400bc22b2e9e9", func := "packhorse/packhorselaw23.VolumeKnown", spec := "volumeKnown", unfollowed := true, recurses := true, plainKeys := false, apart := false }
def VolumeKnownSaid : Prop := volumeKnownRow.holds Try.pinned (OpenSpec.ofChange volumeKnownSpec)

/-- ITS FALSE NEIGHBOUR: 'it returns false'. Refute it at one input. -/
def volumeKnownWrong : ChangeSpec := { name := "volumeKnown", fn := fun _ => fun
  | [] => { results := [.lit (.bool false)], args := [] }
  | _ => none }
def VolumeKnownWrongFalsely : Prop := volumeKnownRow.holds Try.pinned (OpenSpec.ofChange volumeKnownWrong)

/-- 'packhorselaw23.VolumeTwice': WHATEVER THE INPUT: true; the input reads as it did. -/
def volumeTwiceSpec : ChangeSpec := { name := "volumeTwice", fn := fun _ => fun
  | [d1, d2, d3, d4, d5] => { results := [.lit (.bool true)], args := [d1, d2, d3, d4, d5] }
  | _ => none }
def volumeTwiceRow : OpenClaim := { program := "ytnbjdgjopdeolaa", sum := "2a9023a2c56e084cdaa6cd77fb6135cfc95640f2ca37e0a5d61400bc22b2e9e9", func := "packhorse/packhorselaw23.VolumeTwice", spec := "volumeTwice", unfollowed := true, recurses := true, plainKeys := false, apart := false }
def VolumeTwiceSaid : Prop := volumeTwiceRow.holds Try.pinned (OpenSpec.ofChange volumeTwiceSpec)

/-- ITS FALSE NEIGHBOUR: 'it returns false'. Refute it at one input. -/
def volumeTwiceWrong : ChangeSpec := { name := "volumeTwice", fn := fun _ => fun
  | [d1, d2, d3, d4, d5] => { results := [.lit (.bool false)], args := [d1, d2, d3, d4, d5] }
  | _ => none }
def VolumeTwiceWrongFalsely : Prop := volumeTwiceRow.holds Try.pinned (OpenSpec.ofChange volumeTwiceWrong)

/-- 'packhorselaw23.VolumeLater': WHATEVER THE INPUT: true; the input reads as it did. -/
def volumeLaterSpec : ChangeSpec := { name := "volumeLater", fn := fun _ => fun
  | [d1, d2, d3] => { results := [.lit (.bool true)], args := [d1, d2, d3] }
  | _ => none }
def volumeLaterRow : OpenClaim := { program := "ytnbjdgjopdeolaa", sum := "2a9023a2c56e084cdaa6cd77fb6135cfc95640f2ca37e0a5d61400bc22b2e9e9", func := "packhorse/packhorselaw23.VolumeLater", spec := "volumeLater", unfollowed := true, recurses := true, plainKeys := false, apart := false }
def VolumeLaterSaid : Prop := volumeLaterRow.holds Try.pinned (OpenSpec.ofChange volumeLaterSpec)

/-- ITS FALSE NEIGHBOUR: 'it returns false'. Refute it at one input. -/
def volumeLaterWrong : ChangeSpec := { name := "volumeLater", fn := fun _ => fun
  | [d1, d2, d3] => { results := [.lit (.bool false)], args := [d1, d2, d3] }
  | _ => none }
def VolumeLaterWrongFalsely : Prop := volumeLaterRow.holds Try.pinned (OpenSpec.ofChange volumeLaterWrong)

/-- 'packhorselaw23.VolumeSums': WHATEVER THE INPUT: true; the input reads as it did. -/
def volumeSumsSpec : ChangeSpec := { name := "volumeSums", fn := fun _ => fun
  | [d1, d2, d3, d4] => { results := [.lit (.bool true)], args := [d1, d2, d3, d4] }
  | _ => none }
def volumeSumsRow : OpenClaim := { program := "ytnbjdgjopdeolaa", sum := "2a9023a2c56e084cdaa6cd77fb6135cfc95640f2ca37e0a5d61400bc22b2e9e9", func := "packhorse/packhorselaw23.VolumeSums", spec := "volumeSums", unfollowed := true, recurses := true, plainKeys := false, apart := false }
def VolumeSumsSaid : Prop := volumeSumsRow.holds Try.pinned (OpenSpec.ofChange volumeSumsSpec)

/-- ITS FALSE NEIGHBOUR: 'it returns false'. Refute it at one input. -/
def volumeSumsWrong : ChangeSpec := { name := "volumeSums", fn := fun _ => fun
  | [d1, d2, d3, d4] => { results := [.lit (.bool false)], args := [d1, d2, d3, d4] }
  | _ => none }
def VolumeSumsWrongFalsely : Prop := volumeSumsRow.holds Try.pinned (OpenSpec.ofChange volumeSumsWrong)

/-- 'packhorselaw23.VolumeOne': WHATEVER THE INPUT: true; the input reads as it did. -/
def volumeOneSpec : ChangeSpec := { name := "volumeOne", fn := fun _ => fun
  | [d1, d2, d3, d4] => { results := [.lit (.bool true)], args := [d1, d2, d3, d4] }
  | _ => none }
def volumeOneRow : OpenClaim := { program := "ytnbjdgjopdeolaa", sum := "2a9023a2c56e084cdaa6cd77fb6135cfc95640f2ca37e0a5d61400bc22b2e9e9", func := "packhorse/packhorselaw23.VolumeOne", spec := "volumeOne", unfollowed := true, recurses := true, plainKeys := false, apart := false }
def VolumeOneSaid : Prop := volumeOneRow.holds Try.pinned (OpenSpec.ofChange volumeOneSpec)

/-- ITS FALSE NEIGHBOUR: 'it returns false'. Refute it at one input. -/
def volumeOneWrong : ChangeSpec := { name := "volumeOne", fn := fun _ => fun
  | [d1, d2, d3, d4] => { results := [.lit (.bool false)], args := [d1, d2, d3, d4] }
  | _ => none }
def VolumeOneWrongFalsely : Prop := volumeOneRow.holds Try.pinned (OpenSpec.ofChange volumeOneWrong)

/-- 'packhorselaw26.ForecastDrains': WHATEVER THE INPUT: true; the input reads as it did. -/
def forecastDrainsSpec : ChangeSpec := { name := "forecastDrains", fn := fun _ => fun
  | [d1, d2, d3, d4] => { results := [.lit (.bool true)], args := [d1, d2, d3, d4] }
  | _ => none }
def forecastDrainsRow : OpenClaim := { program := "ytnbjdgjopdeolaa", sum := "2a9023a2c56e084cdaa6cd77fb6135cfc95640f2ca37e0a5d61400bc22b2e9e9", func := "packhorse/packhorselaw26.ForecastDrains", spec := "forecastDrains", unfollowed := true, recurses := true, plainKeys := false, apart := false }
def ForecastDrainsSaid : Prop := forecastDrainsRow.holds Try.pinned (OpenSpec.ofChange forecastDrainsSpec)

/-- ITS FALSE NEIGHBOUR: 'it returns false'. Refute it at one input. -/
def forecastDrainsWrong : ChangeSpec := { name := "forecastDrains", fn := fun _ => fun
  | [d1, d2, d3, d4] => { results := [.lit (.bool false)], args := [d1, d2, d3, d4] }
  | _ => none }
def ForecastDrainsWrongFalsely : Prop := forecastDrainsRow.holds Try.pinned (OpenSpec.ofChange forecastDrainsWrong)

/-- 'packhorselaw26.ForecastSooner': WHATEVER THE INPUT: true; the input reads as it did. -/
def forecastSoonerSpec : ChangeSpec := { name := "forecastSooner", fn := fun _ => fun
  | [d1, d2, d3] => { results := [.lit (.bool true)], args := [d1, d2, d3] }
  | _ => none }
def forecastSoonerRow : OpenClaim := { program := "ytnbjdgjopdeolaa", sum := "2a9023a2c56e084cdaa6cd77fb6135cfc95640f2ca37e0a5d61400bc22b2e9e9", func := "packhorse/packhorselaw26.ForecastSooner", spec := "forecastSooner", unfollowed := true, recurses := true, plainKeys := false, apart := false }
def ForecastSoonerSaid : Prop := forecastSoonerRow.holds Try.pinned (OpenSpec.ofChange forecastSoonerSpec)

/-- ITS FALSE NEIGHBOUR: 'it returns false'. Refute it at one input. -/
def forecastSoonerWrong : ChangeSpec := { name := "forecastSooner", fn := fun _ => fun
  | [d1, d2, d3] => { results := [.lit (.bool false)], args := [d1, d2, d3] }
  | _ => none }
def ForecastSoonerWrongFalsely : Prop := forecastSoonerRow.holds Try.pinned (OpenSpec.ofChange forecastSoonerWrong)

/-- 'packhorselaw26.ForecastGrows': WHATEVER THE INPUT: true; the input reads as it did. -/
def forecastGrowsSpec : ChangeSpec := { name := "forecastGrows", fn := fun _ => fun
  | [d1, d2, d3] => { results := [.lit (.bool true)], args := [d1, d2, d3] }
  | _ => none }
def forecastGrowsRow : OpenClaim := { program := "ytnbjdgjopdeolaa", sum := "2a9023a2c56e084cdaa6cd77fb6135cfc95640f2ca37e0a5d61400bc22b2e9e9", func := "packhorse/packhorselaw26.ForecastGrows", spec := "forecastGrows", unfollowed := true, recurses := true, plainKeys := false, apart := false }
def ForecastGrowsSaid : Prop := forecastGrowsRow.holds Try.pinned (OpenSpec.ofChange forecastGrowsSpec)

/-- ITS FALSE NEIGHBOUR: 'it returns false'. Refute it at one input. -/
def forecastGrowsWrong : ChangeSpec := { name := "forecastGrows", fn := fun _ => fun
  | [d1, d2, d3] => { results := [.lit (.bool false)], args := [d1, d2, d3] }
  | _ => none }
def ForecastGrowsWrongFalsely : Prop := forecastGrowsRow.holds Try.pinned (OpenSpec.ofChange forecastGrowsWrong)

/-- 'packhorselaw26.ForecastFits': WHATEVER THE INPUT: true; the input reads as it did. -/
def forecastFitsSpec : ChangeSpec := { name := "forecastFits", fn := fun _ => fun
  | [d1, d2, d3, d4] => { results := [.lit (.bool true)], args := [d1, d2, d3, d4] }
  | _ => none }
def forecastFitsRow : OpenClaim := { program := "ytnbjdgjopdeolaa", sum := "2a9023a2c56e084cdaa6cd77fb6135cfc95640f2ca37e0a5d61400bc22b2e9e9", func := "packhorse/packhorselaw26.ForecastFits", spec := "forecastFits", unfollowed := true, recurses := true, plainKeys := false, apart := false }
def ForecastFitsSaid : Prop := forecastFitsRow.holds Try.pinned (OpenSpec.ofChange forecastFitsSpec)

/-- ITS FALSE NEIGHBOUR: 'it returns false'. Refute it at one input. -/
def forecastFitsWrong : ChangeSpec := { name := "forecastFits", fn := fun _ => fun
  | [d1, d2, d3, d4] => { results := [.lit (.bool false)], args := [d1, d2, d3, d4] }
  | _ => none }
def ForecastFitsWrongFalsely : Prop := forecastFitsRow.holds Try.pinned (OpenSpec.ofChange forecastFitsWrong)

/-- 'packhorselaw26.ForecastKnown': WHATEVER THE INPUT: true; the input reads as it did. -/
def forecastKnownSpec : ChangeSpec := { name := "forecastKnown", fn := fun _ => fun
  | [] => { results := [.lit (.bool true)], args := [] }
  | _ => none }
def forecastKnownRow : OpenClaim := { program := "ytnbjdgjopdeolaa", sum := "2a9023a2c56e084cdaa6cd77fb6135cfc95640f2ca37e0a5d61400bc22b2e9e9", func := "packhorse/packhorselaw26.ForecastKnown", spec := "forecastKnown", unfollowed := true, recurses := true, plainKeys := false, apart := false }
def ForecastKnownSaid : Prop := forecastKnownRow.holds Try.pinned (OpenSpec.ofChange forecastKnownSpec)

/-- ITS FALSE NEIGHBOUR: 'it returns false'. Refute it at one input. -/
def forecastKnownWrong : ChangeSpec := { name := "forecastKnown", fn := fun _ => fun
  | [] => { results := [.lit (.bool false)], args := [] }
  | _ => none }
def ForecastKnownWrongFalsely : Prop := forecastKnownRow.holds Try.pinned (OpenSpec.ofChange forecastKnownWrong)

/- THE SECOND FORM. 'bulk': how many values and letters a reading holds, each counted each time it is reached (what is shared counts as often as it is met; a slice's spare places count too). A statement '..UptoSaid' is the law's where the arguments, and the package variables that the reading takes, are together of bulk at most 1048576: NARROWER than '..Said'. Prove '..Said' where nothing that the law and all that it calls make is longer than what came in: it says more and counts as full. Else prove '..UptoSaid'. A law counts once. -/
mutual
def uptoBulk {H : Type} : DataW H → Nat
  | .lit (.string bytes) => bytes.length + 1
  | .lit _ => 1
  | .nil => 1
  | .ptr d => uptoBulk d + 1
  | .slice elems spare => uptoBulkAll elems + uptoBulkAll spare + 1
  | .agg parts => uptoBulkAll parts + 1
  | .iface _ d => uptoBulk d + 1
  | .map entries => uptoBulkEntries entries + 1
  | .held _ => 1
def uptoBulkAll {H : Type} : List (DataW H) → Nat
  | [] => 0
  | d :: r => uptoBulk d + uptoBulkAll r
def uptoBulkEntries {H : Type} : List (Lit × DataW H) → Nat
  | [] => 0
  | x :: r => uptoBulkEntry x + uptoBulkEntries r
def uptoBulkEntry {H : Type} : Lit × DataW H → Nat
  | (.string bytes, d) => bytes.length + uptoBulk d + 1
  | (_, d) => uptoBulk d + 1
 end
def uptoSmall : (H : Type) → List (DataW H) → Bool := fun _ ds => decide (uptoBulkAll ds ≤ 1048576)
def OpenSpec.upto (s : _root_.Go.ChangeSpec) : _root_.Go.OpenSpec := { _root_.Go.OpenSpec.ofChange s with cond := some uptoSmall }

/-- 'packhorselaw23.VolumeBooks', WHERE WHAT IT READS IS OF BULK AT MOST 1048576: true; the input reads as it did. -/
def volumeBooksUptoRow : OpenClaim := { program := "ytnbjdgjopdeolaa", sum := "2a9023a2c56e084cdaa6cd77fb6135cfc95640f2ca37e0a5d61400bc22b2e9e9", func := "packhorse/packhorselaw23.VolumeBooks", spec := "volumeBooks", plainKeys := false, apart := false, narrowed := true }
def VolumeBooksUptoSaid : Prop := volumeBooksUptoRow.holds Try.pinned (OpenSpec.upto volumeBooksSpec)

/-- 'packhorselaw26.ForecastLevels', WHERE WHAT IT READS IS OF BULK AT MOST 1048576: true; the input reads as it did. -/
def forecastLevelsUptoRow : OpenClaim := { program := "ytnbjdgjopdeolaa", sum := "2a9023a2c56e084cdaa6cd77fb6135cfc95640f2ca37e0a5d61400bc22b2e9e9", func := "packhorse/packhorselaw26.ForecastLevels", spec := "forecastLevels", unfollowed := true, recurses := true, plainKeys := false, apart := false, narrowed := true }
def ForecastLevelsUptoSaid : Prop := forecastLevelsUptoRow.holds Try.pinned (OpenSpec.upto forecastLevelsSpec)

/-- 'packhorselaw26.ForecastStill', WHERE WHAT IT READS IS OF BULK AT MOST 1048576: true; the input reads as it did. -/
def forecastStillUptoRow : OpenClaim := { program := "ytnbjdgjopdeolaa", sum := "2a9023a2c56e084cdaa6cd77fb6135cfc95640f2ca37e0a5d61400bc22b2e9e9", func := "packhorse/packhorselaw26.ForecastStill", spec := "forecastStill", unfollowed := true, recurses := true, plainKeys := false, apart := false, narrowed := true }
def ForecastStillUptoSaid : Prop := forecastStillUptoRow.holds Try.pinned (OpenSpec.upto forecastStillSpec)

/-- 'packhorselaw26.ForecastSteps', WHERE WHAT IT READS IS OF BULK AT MOST 1048576: true; the input reads as it did. -/
def forecastStepsUptoRow : OpenClaim := { program := "ytnbjdgjopdeolaa", sum := "2a9023a2c56e084cdaa6cd77fb6135cfc95640f2ca37e0a5d61400bc22b2e9e9", func := "packhorse/packhorselaw26.ForecastSteps", spec := "forecastSteps", unfollowed := true, recurses := true, plainKeys := false, apart := false, narrowed := true }
def ForecastStepsUptoSaid : Prop := forecastStepsUptoRow.holds Try.pinned (OpenSpec.upto forecastStepsSpec)

/-- 'packhorselaw23.VolumeCarries', WHERE WHAT IT READS IS OF BULK AT MOST 1048576: true; the input reads as it did. -/
def volumeCarriesUptoRow : OpenClaim := { program := "ytnbjdgjopdeolaa", sum := "2a9023a2c56e084cdaa6cd77fb6135cfc95640f2ca37e0a5d61400bc22b2e9e9", func := "packhorse/packhorselaw23.VolumeCarries", spec := "volumeCarries", unfollowed := true, recurses := true, plainKeys := false, apart := false, narrowed := true }
def VolumeCarriesUptoSaid : Prop := volumeCarriesUptoRow.holds Try.pinned (OpenSpec.upto volumeCarriesSpec)

/-- 'packhorselaw23.VolumeKnown', WHERE WHAT IT READS IS OF BULK AT MOST 1048576: true; the input reads as it did. -/
def volumeKnownUptoRow : OpenClaim := { program := "ytnbjdgjopdeolaa", sum := "2a9023a2c56e084cdaa6cd77fb6135cfc95640f2ca37e0a5d61400bc22b2e9e9", func := "packhorse/packhorselaw23.VolumeKnown", spec := "volumeKnown", unfollowed := true, recurses := true, plainKeys := false, apart := false, narrowed := true }
def VolumeKnownUptoSaid : Prop := volumeKnownUptoRow.holds Try.pinned (OpenSpec.upto volumeKnownSpec)

/-- 'packhorselaw23.VolumeTwice', WHERE WHAT IT READS IS OF BULK AT MOST 1048576: true; the input reads as it did. -/
def volumeTwiceUptoRow : OpenClaim := { program := "ytnbjdgjopdeolaa", sum := "2a9023a2c56e084cdaa6cd77fb6135cfc95640f2ca37e0a5d61400bc22b2e9e9", func := "packhorse/packhorselaw23.VolumeTwice", spec := "volumeTwice", unfollowed := true, recurses := true, plainKeys := false, apart := false, narrowed := true }
def VolumeTwiceUptoSaid : Prop := volumeTwiceUptoRow.holds Try.pinned (OpenSpec.upto volumeTwiceSpec)

/-- 'packhorselaw23.VolumeLater', WHERE WHAT IT READS IS OF BULK AT MOST 1048576: true; the input reads as it did. -/
def volumeLaterUptoRow : OpenClaim := { program := "ytnbjdgjopdeolaa", sum := "2a9023a2c56e084cdaa6cd77fb6135cfc95640f2ca37e0a5d61400bc22b2e9e9", func := "packhorse/packhorselaw23.VolumeLater", spec := "volumeLater", unfollowed := true, recurses := true, plainKeys := false, apart := false, narrowed := true }
def VolumeLaterUptoSaid : Prop := volumeLaterUptoRow.holds Try.pinned (OpenSpec.upto volumeLaterSpec)

/-- 'packhorselaw23.VolumeSums', WHERE WHAT IT READS IS OF BULK AT MOST 1048576: true; the input reads as it did. -/
def volumeSumsUptoRow : OpenClaim := { program := "ytnbjdgjopdeolaa", sum := "2a9023a2c56e084cdaa6cd77fb6135cfc95640f2ca37e0a5d61400bc22b2e9e9", func := "packhorse/packhorselaw23.VolumeSums", spec := "volumeSums", unfollowed := true, recurses := true, plainKeys := false, apart := false, narrowed := true }
def VolumeSumsUptoSaid : Prop := volumeSumsUptoRow.holds Try.pinned (OpenSpec.upto volumeSumsSpec)

/-- 'packhorselaw23.VolumeOne', WHERE WHAT IT READS IS OF BULK AT MOST 1048576: true; the input reads as it did. -/
def volumeOneUptoRow : OpenClaim := { program := "ytnbjdgjopdeolaa", sum := "2a9023a2c56e084cdaa6cd77fb6135cfc95640f2ca37e0a5d61400bc22b2e9e9", func := "packhorse/packhorselaw23.VolumeOne", spec := "volumeOne", unfollowed := true, recurses := true, plainKeys := false, apart := false, narrowed := true }
def VolumeOneUptoSaid : Prop := volumeOneUptoRow.holds Try.pinned (OpenSpec.upto volumeOneSpec)

/-- 'packhorselaw26.ForecastDrains', WHERE WHAT IT READS IS OF BULK AT MOST 1048576: true; the input reads as it did. -/
def forecastDrainsUptoRow : OpenClaim := { program := "ytnbjdgjopdeolaa", sum := "2a9023a2c56e084cdaa6cd77fb6135cfc95640f2ca37e0a5d61400bc22b2e9e9", func := "packhorse/packhorselaw26.ForecastDrains", spec := "forecastDrains", unfollowed := true, recurses := true, plainKeys := false, apart := false, narrowed := true }
def ForecastDrainsUptoSaid : Prop := forecastDrainsUptoRow.holds Try.pinned (OpenSpec.upto forecastDrainsSpec)

/-- 'packhorselaw26.ForecastSooner', WHERE WHAT IT READS IS OF BULK AT MOST 1048576: true; the input reads as it did. -/
def forecastSoonerUptoRow : OpenClaim := { program := "ytnbjdgjopdeolaa", sum := "2a9023a2c56e084cdaa6cd77fb6135cfc95640f2ca37e0a5d61400bc22b2e9e9", func := "packhorse/packhorselaw26.ForecastSooner", spec := "forecastSooner", unfollowed := true, recurses := true, plainKeys := false, apart := false, narrowed := true }
def ForecastSoonerUptoSaid : Prop := forecastSoonerUptoRow.holds Try.pinned (OpenSpec.upto forecastSoonerSpec)

/-- 'packhorselaw26.ForecastGrows', WHERE WHAT IT READS IS OF BULK AT MOST 1048576: true; the input reads as it did. -/
def forecastGrowsUptoRow : OpenClaim := { program := "ytnbjdgjopdeolaa", sum := "2a9023a2c56e084cdaa6cd77fb6135cfc95640f2ca37e0a5d61400bc22b2e9e9", func := "packhorse/packhorselaw26.ForecastGrows", spec := "forecastGrows", unfollowed := true, recurses := true, plainKeys := false, apart := false, narrowed := true }
def ForecastGrowsUptoSaid : Prop := forecastGrowsUptoRow.holds Try.pinned (OpenSpec.upto forecastGrowsSpec)

/-- 'packhorselaw26.ForecastFits', WHERE WHAT IT READS IS OF BULK AT MOST 1048576: true; the input reads as it did. -/
def forecastFitsUptoRow : OpenClaim := { program := "ytnbjdgjopdeolaa", sum := "2a9023a2c56e084cdaa6cd77fb6135cfc95640f2ca37e0a5d61400bc22b2e9e9", func := "packhorse/packhorselaw26.ForecastFits", spec := "forecastFits", unfollowed := true, recurses := true, plainKeys := false, apart := false, narrowed := true }
def ForecastFitsUptoSaid : Prop := forecastFitsUptoRow.holds Try.pinned (OpenSpec.upto forecastFitsSpec)

/-- 'packhorselaw26.ForecastKnown', WHERE WHAT IT READS IS OF BULK AT MOST 1048576: true; the input reads as it did. -/
def forecastKnownUptoRow : OpenClaim := { program := "ytnbjdgjopdeolaa", sum := "2a9023a2c56e084cdaa6cd77fb6135cfc95640f2ca37e0a5d61400bc22b2e9e9", func := "packhorse/packhorselaw26.ForecastKnown", spec := "forecastKnown", unfollowed := true, recurses := true, plainKeys := false, apart := false, narrowed := true }
def ForecastKnownUptoSaid : Prop := forecastKnownUptoRow.holds Try.pinned (OpenSpec.upto forecastKnownSpec)

end Rows
end Go.Proofs.Ytnbjdgjopdeolaa
