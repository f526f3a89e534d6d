/-
  DERIVED. GIVEN WITH THE SEED: THE CARDS: each row of YtnbngcagnchkdaaGreatDoorRows.lean that lists a variable, with what it lists TIED to the program's text (the seventh form; the later family's looks); each row that meets fmt, with fmt's text TOLD by the authors' own Lean function (tested against real Go, not proved from fmt's source: count such statements apart). THE CARD IS WHAT COUNTS. Prove the row's statement (the work); the ties are given (YtnbngcagnchkdaaGreatDoorTie.lean); close each card by the builder's one call (the guide's Derived/Test/ToyasCard.lean, 'card_holds'). Laid BY PROGRAM, IN A SANDBOX (cutbox-door.mjs). By AI agents, Wed Nov 11 2026. No macro, syntax, notation, axiom, sorry.
-/
import Derived.Test.YtnbngcagnchkdaaGreatDoorRows
import GoSem.ClaimSeven
namespace Go.Proofs.YtnbngcagnchkdaaGreatDoor
namespace Rows

/-- THE TIED CARD OF 'commonagelaw11.BodyEach'. -/
def bodyEachCard : Claim7 := { stood := { row := bodyEachRow, standIns := [], harness := (true, "c9fed1347dacec540bb6869f6d15fb2edecb8e70cf499e88e2352d4025549a38"), looks := true }, kinds := [], alts := [], laidByText := true, laidKinds := [.data], laidTests := true, laidLooks := .later }
def BodyEachCardSaid : Prop := Claim7.holds Tryz.pinned (.plain (OpenSpec.ofChange bodyEachSpec)) bodyEachCard

/-- THE TIED CARD OF 'commonagelaw11.BodyPlays'. -/
def bodyPlaysCard : Claim7 := { stood := { row := bodyPlaysRow, standIns := [], harness := (true, "c9fed1347dacec540bb6869f6d15fb2edecb8e70cf499e88e2352d4025549a38"), looks := true }, kinds := [], alts := [], laidByText := true, laidKinds := [.data], laidTests := true, laidLooks := .later }
def BodyPlaysCardSaid : Prop := Claim7.holds Tryz.pinned (.plain (OpenSpec.ofChange bodyPlaysSpec)) bodyPlaysCard

/-- THE TIED CARD OF 'commonagelaw11.BodyReads'. -/
def bodyReadsCard : Claim7 := { stood := { row := bodyReadsRow, standIns := [], harness := (true, "c9fed1347dacec540bb6869f6d15fb2edecb8e70cf499e88e2352d4025549a38"), looks := true }, kinds := [], alts := [], laidByText := true, laidKinds := [.data], laidTests := true, laidLooks := .later }
def BodyReadsCardSaid : Prop := Claim7.holds Tryz.pinned (.plain (OpenSpec.ofChange bodyReadsSpec)) bodyReadsCard

/-- THE TIED CARD OF 'commonagelaw11.BodyFresh'. -/
def bodyFreshCard : Claim7 := { stood := { row := bodyFreshRow, standIns := [], harness := (true, "c9fed1347dacec540bb6869f6d15fb2edecb8e70cf499e88e2352d4025549a38"), looks := true }, kinds := [], alts := [], laidByText := true, laidKinds := [.data], laidTests := true, laidLooks := .later }
def BodyFreshCardSaid : Prop := Claim7.holds Tryz.pinned (.plain (OpenSpec.ofChange bodyFreshSpec)) bodyFreshCard

/-- THE TIED CARD OF 'commonagelaw11.BodyGone'. -/
def bodyGoneCard : Claim7 := { stood := { row := bodyGoneRow, standIns := [], harness := (true, "c9fed1347dacec540bb6869f6d15fb2edecb8e70cf499e88e2352d4025549a38"), looks := true }, kinds := [], alts := [], laidByText := true, laidKinds := [.data], laidTests := true, laidLooks := .later }
def BodyGoneCardSaid : Prop := Claim7.holds Tryz.pinned (.plain (OpenSpec.ofChange bodyGoneSpec)) bodyGoneCard

/-- THE SECOND FORM's CARD OF 'commonagelaw11.BodyEach'. -/
def bodyEachUptoCard : Claim7 := { stood := { row := bodyEachUptoRow, standIns := [], harness := (true, "c9fed1347dacec540bb6869f6d15fb2edecb8e70cf499e88e2352d4025549a38"), looks := true }, kinds := [], alts := [], laidByText := true, laidKinds := [.data], laidTests := true, laidLooks := .later }
def BodyEachUptoCardSaid : Prop := Claim7.holds Tryz.pinned (.plain (OpenSpec.upto bodyEachSpec)) bodyEachUptoCard

/-- THE SECOND FORM's CARD OF 'commonagelaw11.BodyPlays'. -/
def bodyPlaysUptoCard : Claim7 := { stood := { row := bodyPlaysUptoRow, standIns := [], harness := (true, "c9fed1347dacec540bb6869f6d15fb2edecb8e70cf499e88e2352d4025549a38"), looks := true }, kinds := [], alts := [], laidByText := true, laidKinds := [.data], laidTests := true, laidLooks := .later }
def BodyPlaysUptoCardSaid : Prop := Claim7.holds Tryz.pinned (.plain (OpenSpec.upto bodyPlaysSpec)) bodyPlaysUptoCard

/-- THE SECOND FORM's CARD OF 'commonagelaw11.BodyReads'. -/
def bodyReadsUptoCard : Claim7 := { stood := { row := bodyReadsUptoRow, standIns := [], harness := (true, "c9fed1347dacec540bb6869f6d15fb2edecb8e70cf499e88e2352d4025549a38"), looks := true }, kinds := [], alts := [], laidByText := true, laidKinds := [.data], laidTests := true, laidLooks := .later }
def BodyReadsUptoCardSaid : Prop := Claim7.holds Tryz.pinned (.plain (OpenSpec.upto bodyReadsSpec)) bodyReadsUptoCard

/-- THE SECOND FORM's CARD OF 'commonagelaw11.BodyFresh'. -/
def bodyFreshUptoCard : Claim7 := { stood := { row := bodyFreshUptoRow, standIns := [], harness := (true, "c9fed1347dacec540bb6869f6d15fb2edecb8e70cf499e88e2352d4025549a38"), looks := true }, kinds := [], alts := [], laidByText := true, laidKinds := [.data], laidTests := true, laidLooks := .later }
def BodyFreshUptoCardSaid : Prop := Claim7.holds Tryz.pinned (.plain (OpenSpec.upto bodyFreshSpec)) bodyFreshUptoCard

/-- THE SECOND FORM's CARD OF 'commonagelaw11.BodyGone'. -/
def bodyGoneUptoCard : Claim7 := { stood := { row := bodyGoneUptoRow, standIns := [], harness := (true, "c9fed1347dacec540bb6869f6d15fb2edecb8e70cf499e88e2352d4025549a38"), looks := true }, kinds := [], alts := [], laidByText := true, laidKinds := [.data], laidTests := true, laidLooks := .later }
def BodyGoneUptoCardSaid : Prop := Claim7.holds Tryz.pinned (.plain (OpenSpec.upto bodyGoneSpec)) bodyGoneUptoCard
end Rows
end Go.Proofs.YtnbngcagnchkdaaGreatDoor
