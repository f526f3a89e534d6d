/-
  DERIVED. GIVEN WITH THE SEED: THE CARDS: each row of YtlhajoamebfniaaDoorRows.lean that lists a variable, with what it lists TIED to the program's text (the seventh form; the later family's looks); each row that meets fmt, with fmt's text TOLD by the authors' own Lean function (tested against real Go, not proved from fmt's source: count such statements apart). THE CARD IS WHAT COUNTS. Prove the row's statement (the work); the ties are given (YtlhajoamebfniaaDoorTie.lean); close each card by the builder's one call (the guide's Derived/Test/ToyasCard.lean, 'card_holds'). Laid BY PROGRAM, IN A SANDBOX (cutbox-door.mjs). By AI agents, Wed Nov 11 2026. No macro, syntax, notation, axiom, sorry.
-/
import Derived.Test.YtlhajoamebfniaaDoorRows
import GoSem.ClaimSeven
namespace Go.Proofs.YtlhajoamebfniaaDoor
namespace Rows

/-- THE TIED CARD OF 'commonagelaw17.GreyAll'. -/
def greyAllCard : Claim7 := { stood := { row := greyAllRow, standIns := [], harness := (true, "e81207232827a325e43b3594d0bd2edf23f75ab3e7025654ca01ef477575ac6b"), looks := false }, kinds := [], alts := [], laidByText := true, laidKinds := [.data], laidTests := true, laidLooks := .later }
def GreyAllCardSaid : Prop := Claim7.holds Tryd.pinned (.plain (OpenSpec.ofChange greyAllSpec)) greyAllCard

/-- THE TIED CARD OF 'commonagelaw10.ArenaPlays'. -/
def arenaPlaysCard : Claim7 := { stood := { row := arenaPlaysRow, standIns := [], harness := (true, "e81207232827a325e43b3594d0bd2edf23f75ab3e7025654ca01ef477575ac6b"), looks := false }, kinds := [], alts := [], laidByText := true, laidKinds := [.data], laidTests := true, laidLooks := .later }
def ArenaPlaysCardSaid : Prop := Claim7.holds Tryd.pinned (.plain (OpenSpec.ofChange arenaPlaysSpec)) arenaPlaysCard

/-- THE TIED CARD OF 'commonagelaw10.ArenaRoom'. -/
def arenaRoomCard : Claim7 := { stood := { row := arenaRoomRow, standIns := [], harness := (true, "e81207232827a325e43b3594d0bd2edf23f75ab3e7025654ca01ef477575ac6b"), looks := false }, kinds := [], alts := [], laidByText := true, laidKinds := [.data], laidTests := true, laidLooks := .later }
def ArenaRoomCardSaid : Prop := Claim7.holds Tryd.pinned (.plain (OpenSpec.ofChange arenaRoomSpec)) arenaRoomCard

/-- THE TIED CARD OF 'commonagelaw10.ArenaLowest'. -/
def arenaLowestCard : Claim7 := { stood := { row := arenaLowestRow, standIns := [], harness := (true, "e81207232827a325e43b3594d0bd2edf23f75ab3e7025654ca01ef477575ac6b"), looks := false }, kinds := [], alts := [], laidByText := true, laidKinds := [.data], laidTests := true, laidLooks := .later }
def ArenaLowestCardSaid : Prop := Claim7.holds Tryd.pinned (.plain (OpenSpec.ofChange arenaLowestSpec)) arenaLowestCard

/-- THE TIED CARD OF 'commonagelaw10.ArenaEach'. -/
def arenaEachCard : Claim7 := { stood := { row := arenaEachRow, standIns := [], harness := (true, "e81207232827a325e43b3594d0bd2edf23f75ab3e7025654ca01ef477575ac6b"), looks := false }, kinds := [], alts := [], laidByText := true, laidKinds := [.data], laidTests := true, laidLooks := .later }
def ArenaEachCardSaid : Prop := Claim7.holds Tryd.pinned (.plain (OpenSpec.ofChange arenaEachSpec)) arenaEachCard

/-- THE TIED CARD OF 'commonagelaw17.GreyPlays'. -/
def greyPlaysCard : Claim7 := { stood := { row := greyPlaysRow, standIns := [], harness := (true, "e81207232827a325e43b3594d0bd2edf23f75ab3e7025654ca01ef477575ac6b"), looks := false }, kinds := [], alts := [], laidByText := true, laidKinds := [.data], laidTests := true, laidLooks := .later }
def GreyPlaysCardSaid : Prop := Claim7.holds Tryd.pinned (.plain (OpenSpec.ofChange greyPlaysSpec)) greyPlaysCard

/-- THE TIED CARD OF 'commonagelaw17.GreyQueue'. -/
def greyQueueCard : Claim7 := { stood := { row := greyQueueRow, standIns := [], harness := (true, "e81207232827a325e43b3594d0bd2edf23f75ab3e7025654ca01ef477575ac6b"), looks := false }, kinds := [], alts := [], laidByText := true, laidKinds := [.data], laidTests := true, laidLooks := .later }
def GreyQueueCardSaid : Prop := Claim7.holds Tryd.pinned (.plain (OpenSpec.ofChange greyQueueSpec)) greyQueueCard

/-- THE TIED CARD OF 'commonagelaw10.ArenaApart'. -/
def arenaApartCard : Claim7 := { stood := { row := arenaApartRow, standIns := [], harness := (true, "e81207232827a325e43b3594d0bd2edf23f75ab3e7025654ca01ef477575ac6b"), looks := false }, kinds := [], alts := [], laidByText := true, laidKinds := [.data], laidTests := true, laidLooks := .later }
def ArenaApartCardSaid : Prop := Claim7.holds Tryd.pinned (.plain (OpenSpec.ofChange arenaApartSpec)) arenaApartCard

/-- THE SECOND FORM's CARD OF 'commonagelaw17.GreyAll'. -/
def greyAllUptoCard : Claim7 := { stood := { row := greyAllUptoRow, standIns := [], harness := (true, "e81207232827a325e43b3594d0bd2edf23f75ab3e7025654ca01ef477575ac6b"), looks := false }, kinds := [], alts := [], laidByText := true, laidKinds := [.data], laidTests := true, laidLooks := .later }
def GreyAllUptoCardSaid : Prop := Claim7.holds Tryd.pinned (.plain (OpenSpec.upto greyAllSpec)) greyAllUptoCard

/-- THE SECOND FORM's CARD OF 'commonagelaw10.ArenaPlays'. -/
def arenaPlaysUptoCard : Claim7 := { stood := { row := arenaPlaysUptoRow, standIns := [], harness := (true, "e81207232827a325e43b3594d0bd2edf23f75ab3e7025654ca01ef477575ac6b"), looks := false }, kinds := [], alts := [], laidByText := true, laidKinds := [.data], laidTests := true, laidLooks := .later }
def ArenaPlaysUptoCardSaid : Prop := Claim7.holds Tryd.pinned (.plain (OpenSpec.upto arenaPlaysSpec)) arenaPlaysUptoCard

/-- THE SECOND FORM's CARD OF 'commonagelaw10.ArenaRoom'. -/
def arenaRoomUptoCard : Claim7 := { stood := { row := arenaRoomUptoRow, standIns := [], harness := (true, "e81207232827a325e43b3594d0bd2edf23f75ab3e7025654ca01ef477575ac6b"), looks := false }, kinds := [], alts := [], laidByText := true, laidKinds := [.data], laidTests := true, laidLooks := .later }
def ArenaRoomUptoCardSaid : Prop := Claim7.holds Tryd.pinned (.plain (OpenSpec.upto arenaRoomSpec)) arenaRoomUptoCard

/-- THE SECOND FORM's CARD OF 'commonagelaw10.ArenaLowest'. -/
def arenaLowestUptoCard : Claim7 := { stood := { row := arenaLowestUptoRow, standIns := [], harness := (true, "e81207232827a325e43b3594d0bd2edf23f75ab3e7025654ca01ef477575ac6b"), looks := false }, kinds := [], alts := [], laidByText := true, laidKinds := [.data], laidTests := true, laidLooks := .later }
def ArenaLowestUptoCardSaid : Prop := Claim7.holds Tryd.pinned (.plain (OpenSpec.upto arenaLowestSpec)) arenaLowestUptoCard

/-- THE SECOND FORM's CARD OF 'commonagelaw10.ArenaEach'. -/
def arenaEachUptoCard : Claim7 := { stood := { row := arenaEachUptoRow, standIns := [], harness := (true, "e81207232827a325e43b3594d0bd2edf23f75ab3e7025654ca01ef477575ac6b"), looks := false }, kinds := [], alts := [], laidByText := true, laidKinds := [.data], laidTests := true, laidLooks := .later }
def ArenaEachUptoCardSaid : Prop := Claim7.holds Tryd.pinned (.plain (OpenSpec.upto arenaEachSpec)) arenaEachUptoCard

/-- THE SECOND FORM's CARD OF 'commonagelaw17.GreyPlays'. -/
def greyPlaysUptoCard : Claim7 := { stood := { row := greyPlaysUptoRow, standIns := [], harness := (true, "e81207232827a325e43b3594d0bd2edf23f75ab3e7025654ca01ef477575ac6b"), looks := false }, kinds := [], alts := [], laidByText := true, laidKinds := [.data], laidTests := true, laidLooks := .later }
def GreyPlaysUptoCardSaid : Prop := Claim7.holds Tryd.pinned (.plain (OpenSpec.upto greyPlaysSpec)) greyPlaysUptoCard

/-- THE SECOND FORM's CARD OF 'commonagelaw17.GreyQueue'. -/
def greyQueueUptoCard : Claim7 := { stood := { row := greyQueueUptoRow, standIns := [], harness := (true, "e81207232827a325e43b3594d0bd2edf23f75ab3e7025654ca01ef477575ac6b"), looks := false }, kinds := [], alts := [], laidByText := true, laidKinds := [.data], laidTests := true, laidLooks := .later }
def GreyQueueUptoCardSaid : Prop := Claim7.holds Tryd.pinned (.plain (OpenSpec.upto greyQueueSpec)) greyQueueUptoCard

/-- THE SECOND FORM's CARD OF 'commonagelaw10.ArenaApart'. -/
def arenaApartUptoCard : Claim7 := { stood := { row := arenaApartUptoRow, standIns := [], harness := (true, "e81207232827a325e43b3594d0bd2edf23f75ab3e7025654ca01ef477575ac6b"), looks := false }, kinds := [], alts := [], laidByText := true, laidKinds := [.data], laidTests := true, laidLooks := .later }
def ArenaApartUptoCardSaid : Prop := Claim7.holds Tryd.pinned (.plain (OpenSpec.upto arenaApartSpec)) arenaApartUptoCard
end Rows
end Go.Proofs.YtlhajoamebfniaaDoor
