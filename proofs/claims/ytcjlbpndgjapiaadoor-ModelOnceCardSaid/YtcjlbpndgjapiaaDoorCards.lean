/-
  DERIVED. GIVEN WITH THE SEED: THE CARDS: each row of YtcjlbpndgjapiaaDoorRows.lean that lists a variable, with what it lists TIED to the program's text (the seventh form; the later family's looks); each row that meets fmt, with fmt's text TOLD by the authors' own Lean function (tested against real Go, not proved from fmt's source: count such statements apart). THE CARD IS WHAT COUNTS. Prove the row's statement (the work); the ties are given (YtcjlbpndgjapiaaDoorTie.lean); close each card by the builder's one call (the guide's Derived/Test/ToyasCard.lean, 'card_holds'). Laid BY PROGRAM, IN A SANDBOX (cutbox-door.mjs). By AI agents, Wed Nov 11 2026. No macro, syntax, notation, axiom, sorry.
-/
import Derived.Test.YtcjlbpndgjapiaaDoorRows
import GoSem.ClaimSeven
namespace Go.Proofs.YtcjlbpndgjapiaaDoor
namespace Rows

/-- THE TIED CARD OF 'packhorselaw40.ModelAllows'. -/
def modelAllowsCard : Claim7 := { stood := { row := modelAllowsRow, standIns := [], harness := (true, "e62b54198cf40dcb025c6f78f35104bbe7688f0ff3bbe5d766a88a5e6f991465"), looks := false }, kinds := [], alts := [], laidByText := true, laidKinds := [.widerDeep, .funcs], laidTests := true, laidLooks := .later }
def ModelAllowsCardSaid : Prop := Claim7.holds Tryd.pinned (.plain (OpenSpec.ofChange modelAllowsSpec)) modelAllowsCard

/-- THE TIED CARD OF 'packhorselaw40.ModelHolds'. -/
def modelHoldsCard : Claim7 := { stood := { row := modelHoldsRow, standIns := [], harness := (true, "e62b54198cf40dcb025c6f78f35104bbe7688f0ff3bbe5d766a88a5e6f991465"), looks := false }, kinds := [], alts := [], laidByText := true, laidKinds := [.widerDeep, .funcs], laidTests := true, laidLooks := .later }
def ModelHoldsCardSaid : Prop := Claim7.holds Tryd.pinned (.plain (OpenSpec.ofChange modelHoldsSpec)) modelHoldsCard

/-- THE TIED CARD OF 'packhorselaw40.ModelKnown'. -/
def modelKnownCard : Claim7 := { stood := { row := modelKnownRow, standIns := [], harness := (true, "e62b54198cf40dcb025c6f78f35104bbe7688f0ff3bbe5d766a88a5e6f991465"), looks := false }, kinds := [], alts := [], laidByText := true, laidKinds := [.widerDeep, .funcs], laidTests := true, laidLooks := .later }
def ModelKnownCardSaid : Prop := Claim7.holds Tryd.pinned (.plain (OpenSpec.ofChange modelKnownSpec)) modelKnownCard

/-- THE TIED CARD OF 'packhorselaw40.ModelBegins'. -/
def modelBeginsCard : Claim7 := { stood := { row := modelBeginsRow, standIns := [], harness := (true, "e62b54198cf40dcb025c6f78f35104bbe7688f0ff3bbe5d766a88a5e6f991465"), looks := false }, kinds := [], alts := [], laidByText := true, laidKinds := [.widerDeep, .funcs], laidTests := true, laidLooks := .later }
def ModelBeginsCardSaid : Prop := Claim7.holds Tryd.pinned (.plain (OpenSpec.ofChange modelBeginsSpec)) modelBeginsCard

/-- THE TIED CARD OF 'packhorselaw40.ModelOnce'. -/
def modelOnceCard : Claim7 := { stood := { row := modelOnceRow, standIns := [], harness := (true, "e62b54198cf40dcb025c6f78f35104bbe7688f0ff3bbe5d766a88a5e6f991465"), looks := false }, kinds := [], alts := [], laidByText := true, laidKinds := [.widerDeep, .funcs], laidTests := true, laidLooks := .later }
def ModelOnceCardSaid : Prop := Claim7.holds Tryd.pinned (.plain (OpenSpec.ofChange modelOnceSpec)) modelOnceCard

/-- THE TIED CARD OF 'packhorselaw40.ModelApart'. -/
def modelApartCard : Claim7 := { stood := { row := modelApartRow, standIns := [], harness := (true, "e62b54198cf40dcb025c6f78f35104bbe7688f0ff3bbe5d766a88a5e6f991465"), looks := false }, kinds := [], alts := [], laidByText := true, laidKinds := [.widerDeep, .funcs], laidTests := true, laidLooks := .later }
def ModelApartCardSaid : Prop := Claim7.holds Tryd.pinned (.plain (OpenSpec.ofChange modelApartSpec)) modelApartCard

/-- THE SECOND FORM's CARD OF 'packhorselaw40.ModelAllows'. -/
def modelAllowsUptoCard : Claim7 := { stood := { row := modelAllowsUptoRow, standIns := [], harness := (true, "e62b54198cf40dcb025c6f78f35104bbe7688f0ff3bbe5d766a88a5e6f991465"), looks := false }, kinds := [], alts := [], laidByText := true, laidKinds := [.widerDeep, .funcs], laidTests := true, laidLooks := .later }
def ModelAllowsUptoCardSaid : Prop := Claim7.holds Tryd.pinned (.plain (OpenSpec.upto modelAllowsSpec)) modelAllowsUptoCard

/-- THE SECOND FORM's CARD OF 'packhorselaw40.ModelHolds'. -/
def modelHoldsUptoCard : Claim7 := { stood := { row := modelHoldsUptoRow, standIns := [], harness := (true, "e62b54198cf40dcb025c6f78f35104bbe7688f0ff3bbe5d766a88a5e6f991465"), looks := false }, kinds := [], alts := [], laidByText := true, laidKinds := [.widerDeep, .funcs], laidTests := true, laidLooks := .later }
def ModelHoldsUptoCardSaid : Prop := Claim7.holds Tryd.pinned (.plain (OpenSpec.upto modelHoldsSpec)) modelHoldsUptoCard

/-- THE SECOND FORM's CARD OF 'packhorselaw40.ModelKnown'. -/
def modelKnownUptoCard : Claim7 := { stood := { row := modelKnownUptoRow, standIns := [], harness := (true, "e62b54198cf40dcb025c6f78f35104bbe7688f0ff3bbe5d766a88a5e6f991465"), looks := false }, kinds := [], alts := [], laidByText := true, laidKinds := [.widerDeep, .funcs], laidTests := true, laidLooks := .later }
def ModelKnownUptoCardSaid : Prop := Claim7.holds Tryd.pinned (.plain (OpenSpec.upto modelKnownSpec)) modelKnownUptoCard

/-- THE SECOND FORM's CARD OF 'packhorselaw40.ModelBegins'. -/
def modelBeginsUptoCard : Claim7 := { stood := { row := modelBeginsUptoRow, standIns := [], harness := (true, "e62b54198cf40dcb025c6f78f35104bbe7688f0ff3bbe5d766a88a5e6f991465"), looks := false }, kinds := [], alts := [], laidByText := true, laidKinds := [.widerDeep, .funcs], laidTests := true, laidLooks := .later }
def ModelBeginsUptoCardSaid : Prop := Claim7.holds Tryd.pinned (.plain (OpenSpec.upto modelBeginsSpec)) modelBeginsUptoCard

/-- THE SECOND FORM's CARD OF 'packhorselaw40.ModelOnce'. -/
def modelOnceUptoCard : Claim7 := { stood := { row := modelOnceUptoRow, standIns := [], harness := (true, "e62b54198cf40dcb025c6f78f35104bbe7688f0ff3bbe5d766a88a5e6f991465"), looks := false }, kinds := [], alts := [], laidByText := true, laidKinds := [.widerDeep, .funcs], laidTests := true, laidLooks := .later }
def ModelOnceUptoCardSaid : Prop := Claim7.holds Tryd.pinned (.plain (OpenSpec.upto modelOnceSpec)) modelOnceUptoCard

/-- THE SECOND FORM's CARD OF 'packhorselaw40.ModelApart'. -/
def modelApartUptoCard : Claim7 := { stood := { row := modelApartUptoRow, standIns := [], harness := (true, "e62b54198cf40dcb025c6f78f35104bbe7688f0ff3bbe5d766a88a5e6f991465"), looks := false }, kinds := [], alts := [], laidByText := true, laidKinds := [.widerDeep, .funcs], laidTests := true, laidLooks := .later }
def ModelApartUptoCardSaid : Prop := Claim7.holds Tryd.pinned (.plain (OpenSpec.upto modelApartSpec)) modelApartUptoCard
end Rows
end Go.Proofs.YtcjlbpndgjapiaaDoor
