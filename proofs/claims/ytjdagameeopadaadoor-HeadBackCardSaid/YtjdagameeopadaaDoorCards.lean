/-
  DERIVED. GIVEN WITH THE SEED: THE CARDS: each row of YtjdagameeopadaaDoorRows.lean that lists a variable, with what it lists TIED to the program's text (the seventh form; the later family's looks); each row that meets fmt, with fmt's text TOLD by the authors' own Lean function (tested against real Go, not proved from fmt's source: count such statements apart). THE CARD IS WHAT COUNTS. Prove the row's statement (the work); the ties are given (YtjdagameeopadaaDoorTie.lean); close each card by the builder's one call (the guide's Derived/Test/ToyasCard.lean, 'card_holds'). Laid BY PROGRAM, IN A SANDBOX (cutbox-door.mjs). By AI agents, Wed Nov 11 2026. No macro, syntax, notation, axiom, sorry.
-/
import Derived.Test.YtjdagameeopadaaDoorRows
import GoSem.ClaimSeven
namespace Go.Proofs.YtjdagameeopadaaDoor
namespace Rows

/-- THE TIED CARD OF 'commonagelaw08.HeadTells'. -/
def headTellsCard : Claim7 := { stood := { row := headTellsRow, standIns := [], harness := (true, "8d0bd550655fbf2d1de6bf4a12756287b168fdfe59c4454121e308b2ccf30d29"), looks := false }, kinds := [], alts := [], laidByText := true, laidKinds := [.data], laidTests := true, laidLooks := .later }
def HeadTellsCardSaid : Prop := Claim7.holds Tryd.pinned (.plain (OpenSpec.ofChange headTellsSpec)) headTellsCard

/-- THE TIED CARD OF 'commonagelaw08.HeadBack'. -/
def headBackCard : Claim7 := { stood := { row := headBackRow, standIns := [], harness := (true, "8d0bd550655fbf2d1de6bf4a12756287b168fdfe59c4454121e308b2ccf30d29"), looks := false }, kinds := [], alts := [], laidByText := true, laidKinds := [.data], laidTests := true, laidLooks := .later }
def HeadBackCardSaid : Prop := Claim7.holds Tryd.pinned (.plain (OpenSpec.ofChange headBackSpec)) headBackCard

/-- THE TIED CARD OF 'commonagelaw08.HeadUnlike'. -/
def headUnlikeCard : Claim7 := { stood := { row := headUnlikeRow, standIns := [], harness := (true, "8d0bd550655fbf2d1de6bf4a12756287b168fdfe59c4454121e308b2ccf30d29"), looks := false }, kinds := [], alts := [], laidByText := true, laidKinds := [.data], laidTests := true, laidLooks := .later }
def HeadUnlikeCardSaid : Prop := Claim7.holds Tryd.pinned (.plain (OpenSpec.ofChange headUnlikeSpec)) headUnlikeCard

/-- THE SECOND FORM's CARD OF 'commonagelaw08.HeadTells'. -/
def headTellsUptoCard : Claim7 := { stood := { row := headTellsUptoRow, standIns := [], harness := (true, "8d0bd550655fbf2d1de6bf4a12756287b168fdfe59c4454121e308b2ccf30d29"), looks := false }, kinds := [], alts := [], laidByText := true, laidKinds := [.data], laidTests := true, laidLooks := .later }
def HeadTellsUptoCardSaid : Prop := Claim7.holds Tryd.pinned (.plain (OpenSpec.upto headTellsSpec)) headTellsUptoCard

/-- THE SECOND FORM's CARD OF 'commonagelaw08.HeadBack'. -/
def headBackUptoCard : Claim7 := { stood := { row := headBackUptoRow, standIns := [], harness := (true, "8d0bd550655fbf2d1de6bf4a12756287b168fdfe59c4454121e308b2ccf30d29"), looks := false }, kinds := [], alts := [], laidByText := true, laidKinds := [.data], laidTests := true, laidLooks := .later }
def HeadBackUptoCardSaid : Prop := Claim7.holds Tryd.pinned (.plain (OpenSpec.upto headBackSpec)) headBackUptoCard

/-- THE SECOND FORM's CARD OF 'commonagelaw08.HeadUnlike'. -/
def headUnlikeUptoCard : Claim7 := { stood := { row := headUnlikeUptoRow, standIns := [], harness := (true, "8d0bd550655fbf2d1de6bf4a12756287b168fdfe59c4454121e308b2ccf30d29"), looks := false }, kinds := [], alts := [], laidByText := true, laidKinds := [.data], laidTests := true, laidLooks := .later }
def HeadUnlikeUptoCardSaid : Prop := Claim7.holds Tryd.pinned (.plain (OpenSpec.upto headUnlikeSpec)) headUnlikeUptoCard
end Rows
end Go.Proofs.YtjdagameeopadaaDoor
