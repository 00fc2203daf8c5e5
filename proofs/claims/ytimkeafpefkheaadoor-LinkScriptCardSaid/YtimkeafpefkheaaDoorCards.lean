/-
  DERIVED. GIVEN WITH THE SEED: THE CARDS: each row of YtimkeafpefkheaaDoorRows.lean that lists a variable, with what it lists TIED to the program's text (the seventh form; the later family's looks); each row that meets fmt, with fmt's text TOLD by the authors' own Lean function (tested against real Go, not proved from fmt's source: count such statements apart). THE CARD IS WHAT COUNTS. Prove the row's statement (the work); the ties are given (YtimkeafpefkheaaDoorTie.lean); close each card by the builder's one call (the guide's Derived/Test/ToyasCard.lean, 'card_holds'). Laid BY PROGRAM, IN A SANDBOX (cutbox-door.mjs). By AI agents, Wed Nov 11 2026. No macro, syntax, notation, axiom, sorry.
-/
import Derived.Test.YtimkeafpefkheaaDoorRows
import GoSem.ClaimSeven
namespace Go.Proofs.YtimkeafpefkheaaDoor
namespace Rows

/-- THE TIED CARD OF 'packhorselaw36.LinkPushes'. -/
def linkPushesCard : Claim7 := { stood := { row := linkPushesRow, standIns := [], harness := (true, "c6d179f98de627aad8a65784be011a6208f59f7b88be516f39c8fb7a0a30092a"), looks := false }, kinds := [], alts := [], laidByText := true, laidKinds := [.funcs], laidTests := true, laidLooks := .later }
def LinkPushesCardSaid : Prop := Claim7.holds Tryd.pinned (.plain (OpenSpec.ofChange linkPushesSpec)) linkPushesCard

/-- THE TIED CARD OF 'packhorselaw36.LinkFaults'. -/
def linkFaultsCard : Claim7 := { stood := { row := linkFaultsRow, standIns := [], harness := (true, "c6d179f98de627aad8a65784be011a6208f59f7b88be516f39c8fb7a0a30092a"), looks := false }, kinds := [], alts := [], laidByText := true, laidKinds := [.funcs], laidTests := true, laidLooks := .later }
def LinkFaultsCardSaid : Prop := Claim7.holds Tryd.pinned (.plain (OpenSpec.ofChange linkFaultsSpec)) linkFaultsCard

/-- THE TIED CARD OF 'packhorselaw36.LinkKnown'. -/
def linkKnownCard : Claim7 := { stood := { row := linkKnownRow, standIns := [], harness := (true, "c6d179f98de627aad8a65784be011a6208f59f7b88be516f39c8fb7a0a30092a"), looks := false }, kinds := [], alts := [], laidByText := true, laidKinds := [.funcs], laidTests := true, laidLooks := .later }
def LinkKnownCardSaid : Prop := Claim7.holds Tryd.pinned (.plain (OpenSpec.ofChange linkKnownSpec)) linkKnownCard

/-- THE TIED CARD OF 'packhorselaw36.LinkOrder'. -/
def linkOrderCard : Claim7 := { stood := { row := linkOrderRow, standIns := [], harness := (true, "c6d179f98de627aad8a65784be011a6208f59f7b88be516f39c8fb7a0a30092a"), looks := false }, kinds := [], alts := [], laidByText := true, laidKinds := [.funcs], laidTests := true, laidLooks := .later }
def LinkOrderCardSaid : Prop := Claim7.holds Tryd.pinned (.plain (OpenSpec.ofChange linkOrderSpec)) linkOrderCard

/-- THE TIED CARD OF 'packhorselaw36.LinkChanges'. -/
def linkChangesCard : Claim7 := { stood := { row := linkChangesRow, standIns := [], harness := (true, "c6d179f98de627aad8a65784be011a6208f59f7b88be516f39c8fb7a0a30092a"), looks := false }, kinds := [], alts := [], laidByText := true, laidKinds := [.funcs], laidTests := true, laidLooks := .later }
def LinkChangesCardSaid : Prop := Claim7.holds Tryd.pinned (.plain (OpenSpec.ofChange linkChangesSpec)) linkChangesCard

/-- THE TIED CARD OF 'packhorselaw36.LinkRuns'. -/
def linkRunsCard : Claim7 := { stood := { row := linkRunsRow, standIns := [], harness := (true, "c6d179f98de627aad8a65784be011a6208f59f7b88be516f39c8fb7a0a30092a"), looks := false }, kinds := [], alts := [], laidByText := true, laidKinds := [.funcs], laidTests := true, laidLooks := .later }
def LinkRunsCardSaid : Prop := Claim7.holds Tryd.pinned (.plain (OpenSpec.ofChange linkRunsSpec)) linkRunsCard

/-- THE TIED CARD OF 'packhorselaw36.LinkScript'. -/
def linkScriptCard : Claim7 := { stood := { row := linkScriptRow, standIns := [], harness := (true, "c6d179f98de627aad8a65784be011a6208f59f7b88be516f39c8fb7a0a30092a"), looks := false }, kinds := [], alts := [], laidByText := true, laidKinds := [.funcs], laidTests := true, laidLooks := .later }
def LinkScriptCardSaid : Prop := Claim7.holds Tryd.pinned (.plain (OpenSpec.ofChange linkScriptSpec)) linkScriptCard

/-- THE SECOND FORM's CARD OF 'packhorselaw36.LinkPushes'. -/
def linkPushesUptoCard : Claim7 := { stood := { row := linkPushesUptoRow, standIns := [], harness := (true, "c6d179f98de627aad8a65784be011a6208f59f7b88be516f39c8fb7a0a30092a"), looks := false }, kinds := [], alts := [], laidByText := true, laidKinds := [.funcs], laidTests := true, laidLooks := .later }
def LinkPushesUptoCardSaid : Prop := Claim7.holds Tryd.pinned (.plain (OpenSpec.upto linkPushesSpec)) linkPushesUptoCard

/-- THE SECOND FORM's CARD OF 'packhorselaw36.LinkFaults'. -/
def linkFaultsUptoCard : Claim7 := { stood := { row := linkFaultsUptoRow, standIns := [], harness := (true, "c6d179f98de627aad8a65784be011a6208f59f7b88be516f39c8fb7a0a30092a"), looks := false }, kinds := [], alts := [], laidByText := true, laidKinds := [.funcs], laidTests := true, laidLooks := .later }
def LinkFaultsUptoCardSaid : Prop := Claim7.holds Tryd.pinned (.plain (OpenSpec.upto linkFaultsSpec)) linkFaultsUptoCard

/-- THE SECOND FORM's CARD OF 'packhorselaw36.LinkKnown'. -/
def linkKnownUptoCard : Claim7 := { stood := { row := linkKnownUptoRow, standIns := [], harness := (true, "c6d179f98de627aad8a65784be011a6208f59f7b88be516f39c8fb7a0a30092a"), looks := false }, kinds := [], alts := [], laidByText := true, laidKinds := [.funcs], laidTests := true, laidLooks := .later }
def LinkKnownUptoCardSaid : Prop := Claim7.holds Tryd.pinned (.plain (OpenSpec.upto linkKnownSpec)) linkKnownUptoCard

/-- THE SECOND FORM's CARD OF 'packhorselaw36.LinkOrder'. -/
def linkOrderUptoCard : Claim7 := { stood := { row := linkOrderUptoRow, standIns := [], harness := (true, "c6d179f98de627aad8a65784be011a6208f59f7b88be516f39c8fb7a0a30092a"), looks := false }, kinds := [], alts := [], laidByText := true, laidKinds := [.funcs], laidTests := true, laidLooks := .later }
def LinkOrderUptoCardSaid : Prop := Claim7.holds Tryd.pinned (.plain (OpenSpec.upto linkOrderSpec)) linkOrderUptoCard

/-- THE SECOND FORM's CARD OF 'packhorselaw36.LinkChanges'. -/
def linkChangesUptoCard : Claim7 := { stood := { row := linkChangesUptoRow, standIns := [], harness := (true, "c6d179f98de627aad8a65784be011a6208f59f7b88be516f39c8fb7a0a30092a"), looks := false }, kinds := [], alts := [], laidByText := true, laidKinds := [.funcs], laidTests := true, laidLooks := .later }
def LinkChangesUptoCardSaid : Prop := Claim7.holds Tryd.pinned (.plain (OpenSpec.upto linkChangesSpec)) linkChangesUptoCard

/-- THE SECOND FORM's CARD OF 'packhorselaw36.LinkRuns'. -/
def linkRunsUptoCard : Claim7 := { stood := { row := linkRunsUptoRow, standIns := [], harness := (true, "c6d179f98de627aad8a65784be011a6208f59f7b88be516f39c8fb7a0a30092a"), looks := false }, kinds := [], alts := [], laidByText := true, laidKinds := [.funcs], laidTests := true, laidLooks := .later }
def LinkRunsUptoCardSaid : Prop := Claim7.holds Tryd.pinned (.plain (OpenSpec.upto linkRunsSpec)) linkRunsUptoCard

/-- THE SECOND FORM's CARD OF 'packhorselaw36.LinkScript'. -/
def linkScriptUptoCard : Claim7 := { stood := { row := linkScriptUptoRow, standIns := [], harness := (true, "c6d179f98de627aad8a65784be011a6208f59f7b88be516f39c8fb7a0a30092a"), looks := false }, kinds := [], alts := [], laidByText := true, laidKinds := [.funcs], laidTests := true, laidLooks := .later }
def LinkScriptUptoCardSaid : Prop := Claim7.holds Tryd.pinned (.plain (OpenSpec.upto linkScriptSpec)) linkScriptUptoCard
end Rows
end Go.Proofs.YtimkeafpefkheaaDoor
