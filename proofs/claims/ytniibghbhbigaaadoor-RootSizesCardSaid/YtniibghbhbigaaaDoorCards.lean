/-
  DERIVED. GIVEN WITH THE SEED: THE CARDS: each row of YtniibghbhbigaaaDoorRows.lean that lists a variable, with what it lists TIED to the program's text (the seventh form; the later family's looks); each row that meets fmt, with fmt's text TOLD by the authors' own Lean function (tested against real Go, not proved from fmt's source: count such statements apart). THE CARD IS WHAT COUNTS. Prove the row's statement (the work); the ties are given (YtniibghbhbigaaaDoorTie.lean); close each card by the builder's one call (the guide's Derived/Test/ToyasCard.lean, 'card_holds'). Laid BY PROGRAM, IN A SANDBOX (cutbox-door.mjs). By AI agents, Wed Nov 11 2026. No macro, syntax, notation, axiom, sorry.
-/
import Derived.Test.YtniibghbhbigaaaDoorRows
import GoSem.ClaimSeven
namespace Go.Proofs.YtniibghbhbigaaaDoor
namespace Rows

/-- THE TIED CARD OF 'dulcimerlaw04.RootOrders'. -/
def rootOrdersCard : Claim7 := { stood := { row := rootOrdersRow, standIns := [], harness := (true, "4791bb52bbd75ecabd3807e04d741e0d983745f55e6e9d45c1cd4c7aab8f9a42"), looks := false }, kinds := [], alts := [], laidByText := true, laidKinds := [.widerDeep], laidTests := true, laidLooks := .later }
def RootOrdersCardSaid : Prop := Claim7.holds Tryd.pinned (.plain (OpenSpec.ofChange rootOrdersSpec)) rootOrdersCard

/-- THE TIED CARD OF 'dulcimerlaw04.RootSizes'. -/
def rootSizesCard : Claim7 := { stood := { row := rootSizesRow, standIns := [], harness := (true, "4791bb52bbd75ecabd3807e04d741e0d983745f55e6e9d45c1cd4c7aab8f9a42"), looks := false }, kinds := [], alts := [], laidByText := true, laidKinds := [.widerDeep], laidTests := true, laidLooks := .later }
def RootSizesCardSaid : Prop := Claim7.holds Tryd.pinned (.plain (OpenSpec.ofChange rootSizesSpec)) rootSizesCard

/-- THE SECOND FORM's CARD OF 'dulcimerlaw04.RootOrders'. -/
def rootOrdersUptoCard : Claim7 := { stood := { row := rootOrdersUptoRow, standIns := [], harness := (true, "4791bb52bbd75ecabd3807e04d741e0d983745f55e6e9d45c1cd4c7aab8f9a42"), looks := false }, kinds := [], alts := [], laidByText := true, laidKinds := [.widerDeep], laidTests := true, laidLooks := .later }
def RootOrdersUptoCardSaid : Prop := Claim7.holds Tryd.pinned (.plain (OpenSpec.upto rootOrdersSpec)) rootOrdersUptoCard

/-- THE SECOND FORM's CARD OF 'dulcimerlaw04.RootSizes'. -/
def rootSizesUptoCard : Claim7 := { stood := { row := rootSizesUptoRow, standIns := [], harness := (true, "4791bb52bbd75ecabd3807e04d741e0d983745f55e6e9d45c1cd4c7aab8f9a42"), looks := false }, kinds := [], alts := [], laidByText := true, laidKinds := [.widerDeep], laidTests := true, laidLooks := .later }
def RootSizesUptoCardSaid : Prop := Claim7.holds Tryd.pinned (.plain (OpenSpec.upto rootSizesSpec)) rootSizesUptoCard
end Rows
end Go.Proofs.YtniibghbhbigaaaDoor
