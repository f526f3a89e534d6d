/-
  DERIVED. GIVEN WITH THE SEED: THE CARDS: each row of YtfcldaembdedjaaGreatDoorRows.lean that lists a variable, with what it lists TIED to the program's text (the seventh form; the later family's looks); each row that meets fmt, with fmt's text TOLD by the authors' own Lean function (tested against real Go, not proved from fmt's source: count such statements apart). THE CARD IS WHAT COUNTS. Prove the row's statement (the work); the ties are given (YtfcldaembdedjaaGreatDoorTie.lean); close each card by the builder's one call (the guide's Derived/Test/ToyasCard.lean, 'card_holds'). Laid BY PROGRAM, IN A SANDBOX (cutbox-door.mjs). By AI agents, Wed Nov 11 2026. No macro, syntax, notation, axiom, sorry.
-/
import Derived.Test.YtfcldaembdedjaaGreatDoorRows
import GoSem.ClaimSeven
namespace Go.Proofs.YtfcldaembdedjaaGreatDoor
namespace Rows

/-- THE TIED CARD OF 'commonagetop.TopCycles'. -/
def topCyclesCard : Claim7 := { stood := { row := topCyclesRow, standIns := [], harness := (true, "c62b8ea490f6f6a43b13673557dd5109c9ff4324dfff7557b86addb1977e933f"), looks := true }, kinds := [], alts := [], laidByText := true, laidKinds := [.data, .data], laidTests := true, laidLooks := .later }
def TopCyclesCardSaid : Prop := Claim7.holds Tryz.pinned (.plain (OpenSpec.ofChange topCyclesSpec)) topCyclesCard

/-- THE TIED CARD OF 'commonagetop.TopQuota'. -/
def topQuotaCard : Claim7 := { stood := { row := topQuotaRow, standIns := [], harness := (true, "c62b8ea490f6f6a43b13673557dd5109c9ff4324dfff7557b86addb1977e933f"), looks := true }, kinds := [], alts := [], laidByText := true, laidKinds := [.data, .data], laidTests := true, laidLooks := .later }
def TopQuotaCardSaid : Prop := Claim7.holds Tryz.pinned (.plain (OpenSpec.ofChange topQuotaSpec)) topQuotaCard

/-- THE SECOND FORM's CARD OF 'commonagetop.TopCycles'. -/
def topCyclesUptoCard : Claim7 := { stood := { row := topCyclesUptoRow, standIns := [], harness := (true, "c62b8ea490f6f6a43b13673557dd5109c9ff4324dfff7557b86addb1977e933f"), looks := true }, kinds := [], alts := [], laidByText := true, laidKinds := [.data, .data], laidTests := true, laidLooks := .later }
def TopCyclesUptoCardSaid : Prop := Claim7.holds Tryz.pinned (.plain (OpenSpec.upto topCyclesSpec)) topCyclesUptoCard

/-- THE SECOND FORM's CARD OF 'commonagetop.TopQuota'. -/
def topQuotaUptoCard : Claim7 := { stood := { row := topQuotaUptoRow, standIns := [], harness := (true, "c62b8ea490f6f6a43b13673557dd5109c9ff4324dfff7557b86addb1977e933f"), looks := true }, kinds := [], alts := [], laidByText := true, laidKinds := [.data, .data], laidTests := true, laidLooks := .later }
def TopQuotaUptoCardSaid : Prop := Claim7.holds Tryz.pinned (.plain (OpenSpec.upto topQuotaSpec)) topQuotaUptoCard
end Rows
end Go.Proofs.YtfcldaembdedjaaGreatDoor
