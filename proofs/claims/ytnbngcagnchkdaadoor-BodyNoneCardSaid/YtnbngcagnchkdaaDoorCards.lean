/-
  DERIVED. GIVEN WITH THE SEED: THE CARDS: each row of YtnbngcagnchkdaaDoorRows.lean that lists a variable, with what it lists TIED to the program's text (the seventh form; the later family's looks); each row that meets fmt, with fmt's text TOLD by the authors' own Lean function (tested against real Go, not proved from fmt's source: count such statements apart). THE CARD IS WHAT COUNTS. Prove the row's statement (the work); the ties are given (YtnbngcagnchkdaaDoorTie.lean); close each card by the builder's one call (the guide's Derived/Test/ToyasCard.lean, 'card_holds'). Laid BY PROGRAM, IN A SANDBOX (cutbox-door.mjs). By AI agents, Wed Nov 11 2026. No macro, syntax, notation, axiom, sorry.
-/
import Derived.Test.YtnbngcagnchkdaaDoorRows
import GoSem.ClaimSeven
namespace Go.Proofs.YtnbngcagnchkdaaDoor
namespace Rows

/-- THE TIED CARD OF 'commonagelaw11.BodyNone'. -/
def bodyNoneCard : Claim7 := { stood := { row := bodyNoneRow, standIns := [], harness := (true, "0e6cec8248982c14b7a05cf21a57948498bf9d535bb1b627e5f092ffe006dd2f"), looks := true }, kinds := [], alts := [], laidByText := true, laidKinds := [.data], laidTests := true, laidLooks := .later }
def BodyNoneCardSaid : Prop := Claim7.holds Tryd.pinned (.plain (OpenSpec.ofChange bodyNoneSpec)) bodyNoneCard

/-- THE SECOND FORM's CARD OF 'commonagelaw11.BodyNone'. -/
def bodyNoneUptoCard : Claim7 := { stood := { row := bodyNoneUptoRow, standIns := [], harness := (true, "0e6cec8248982c14b7a05cf21a57948498bf9d535bb1b627e5f092ffe006dd2f"), looks := true }, kinds := [], alts := [], laidByText := true, laidKinds := [.data], laidTests := true, laidLooks := .later }
def BodyNoneUptoCardSaid : Prop := Claim7.holds Tryd.pinned (.plain (OpenSpec.upto bodyNoneSpec)) bodyNoneUptoCard
end Rows
end Go.Proofs.YtnbngcagnchkdaaDoor
