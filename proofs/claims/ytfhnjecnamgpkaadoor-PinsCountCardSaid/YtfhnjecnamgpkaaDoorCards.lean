/-
  DERIVED. GIVEN WITH THE SEED: THE CARDS: each row of YtfhnjecnamgpkaaDoorRows.lean that lists a variable, with what it lists TIED to the program's text (the seventh form; the later family's looks); each row that meets fmt, with fmt's text TOLD by the authors' own Lean function (tested against real Go, not proved from fmt's source: count such statements apart). THE CARD IS WHAT COUNTS. Prove the row's statement (the work); the ties are given (YtfhnjecnamgpkaaDoorTie.lean); close each card by the builder's one call (the guide's Derived/Test/ToyasCard.lean, 'card_holds'). Laid BY PROGRAM, IN A SANDBOX (cutbox-door.mjs). By AI agents, Wed Nov 11 2026. No macro, syntax, notation, axiom, sorry.
-/
import Derived.Test.YtfhnjecnamgpkaaDoorRows
import GoSem.ClaimSeven
namespace Go.Proofs.YtfhnjecnamgpkaaDoor
namespace Rows

/-- THE TIED CARD OF 'commonagelaw04.BitsLess'. -/
def bitsLessCard : Claim7 := { stood := { row := bitsLessRow, standIns := [], harness := (true, "c4d59a198c7ae15c0d92cfe6c24f5ea686418c15f69f21e2982719c531f6d636"), looks := false }, kinds := [], alts := [], laidByText := true, laidKinds := [.data], laidTests := true, laidLooks := .later }
def BitsLessCardSaid : Prop := Claim7.holds Tryd.pinned (.plain (OpenSpec.ofChange bitsLessSpec)) bitsLessCard

/-- THE TIED CARD OF 'commonagelaw04.BitsWalk'. -/
def bitsWalkCard : Claim7 := { stood := { row := bitsWalkRow, standIns := [], harness := (true, "c4d59a198c7ae15c0d92cfe6c24f5ea686418c15f69f21e2982719c531f6d636"), looks := false }, kinds := [], alts := [], laidByText := true, laidKinds := [.data], laidTests := true, laidLooks := .later }
def BitsWalkCardSaid : Prop := Claim7.holds Tryd.pinned (.plain (OpenSpec.ofChange bitsWalkSpec)) bitsWalkCard

/-- THE TIED CARD OF 'commonagelaw04.BitsBoth'. -/
def bitsBothCard : Claim7 := { stood := { row := bitsBothRow, standIns := [], harness := (true, "c4d59a198c7ae15c0d92cfe6c24f5ea686418c15f69f21e2982719c531f6d636"), looks := false }, kinds := [], alts := [], laidByText := true, laidKinds := [.data], laidTests := true, laidLooks := .later }
def BitsBothCardSaid : Prop := Claim7.holds Tryd.pinned (.plain (OpenSpec.ofChange bitsBothSpec)) bitsBothCard

/-- THE TIED CARD OF 'commonagelaw04.BitsPlay'. -/
def bitsPlayCard : Claim7 := { stood := { row := bitsPlayRow, standIns := [], harness := (true, "c4d59a198c7ae15c0d92cfe6c24f5ea686418c15f69f21e2982719c531f6d636"), looks := false }, kinds := [], alts := [], laidByText := true, laidKinds := [.data], laidTests := true, laidLooks := .later }
def BitsPlayCardSaid : Prop := Claim7.holds Tryd.pinned (.plain (OpenSpec.ofChange bitsPlaySpec)) bitsPlayCard

/-- THE TIED CARD OF 'commonagelaw04.BitsAgain'. -/
def bitsAgainCard : Claim7 := { stood := { row := bitsAgainRow, standIns := [], harness := (true, "c4d59a198c7ae15c0d92cfe6c24f5ea686418c15f69f21e2982719c531f6d636"), looks := false }, kinds := [], alts := [], laidByText := true, laidKinds := [.data], laidTests := true, laidLooks := .later }
def BitsAgainCardSaid : Prop := Claim7.holds Tryd.pinned (.plain (OpenSpec.ofChange bitsAgainSpec)) bitsAgainCard

/-- THE TIED CARD OF 'commonagelaw04.BitsWords'. -/
def bitsWordsCard : Claim7 := { stood := { row := bitsWordsRow, standIns := [], harness := (true, "c4d59a198c7ae15c0d92cfe6c24f5ea686418c15f69f21e2982719c531f6d636"), looks := false }, kinds := [], alts := [], laidByText := true, laidKinds := [.data], laidTests := true, laidLooks := .later }
def BitsWordsCardSaid : Prop := Claim7.holds Tryd.pinned (.plain (OpenSpec.ofChange bitsWordsSpec)) bitsWordsCard

/-- THE TIED CARD OF 'commonagelaw04.BitsApart'. -/
def bitsApartCard : Claim7 := { stood := { row := bitsApartRow, standIns := [], harness := (true, "c4d59a198c7ae15c0d92cfe6c24f5ea686418c15f69f21e2982719c531f6d636"), looks := false }, kinds := [], alts := [], laidByText := true, laidKinds := [.data], laidTests := true, laidLooks := .later }
def BitsApartCardSaid : Prop := Claim7.holds Tryd.pinned (.plain (OpenSpec.ofChange bitsApartSpec)) bitsApartCard

/-- THE TIED CARD OF 'commonagelaw14.PinsCount'. -/
def pinsCountCard : Claim7 := { stood := { row := pinsCountRow, standIns := [], harness := (true, "c4d59a198c7ae15c0d92cfe6c24f5ea686418c15f69f21e2982719c531f6d636"), looks := false }, kinds := [], alts := [], laidByText := true, laidKinds := [.data], laidTests := true, laidLooks := .later }
def PinsCountCardSaid : Prop := Claim7.holds Tryd.pinned (.plain (OpenSpec.ofChange pinsCountSpec)) pinsCountCard

/-- THE TIED CARD OF 'commonagelaw14.PinsPlay'. -/
def pinsPlayCard : Claim7 := { stood := { row := pinsPlayRow, standIns := [], harness := (true, "c4d59a198c7ae15c0d92cfe6c24f5ea686418c15f69f21e2982719c531f6d636"), looks := false }, kinds := [], alts := [], laidByText := true, laidKinds := [.data], laidTests := true, laidLooks := .later }
def PinsPlayCardSaid : Prop := Claim7.holds Tryd.pinned (.plain (OpenSpec.ofChange pinsPlaySpec)) pinsPlayCard

/-- THE TIED CARD OF 'commonagelaw14.PinsNone'. -/
def pinsNoneCard : Claim7 := { stood := { row := pinsNoneRow, standIns := [], harness := (true, "c4d59a198c7ae15c0d92cfe6c24f5ea686418c15f69f21e2982719c531f6d636"), looks := false }, kinds := [], alts := [], laidByText := true, laidKinds := [.data], laidTests := true, laidLooks := .later }
def PinsNoneCardSaid : Prop := Claim7.holds Tryd.pinned (.plain (OpenSpec.ofChange pinsNoneSpec)) pinsNoneCard

/-- THE SECOND FORM's CARD OF 'commonagelaw04.BitsLess'. -/
def bitsLessUptoCard : Claim7 := { stood := { row := bitsLessUptoRow, standIns := [], harness := (true, "c4d59a198c7ae15c0d92cfe6c24f5ea686418c15f69f21e2982719c531f6d636"), looks := false }, kinds := [], alts := [], laidByText := true, laidKinds := [.data], laidTests := true, laidLooks := .later }
def BitsLessUptoCardSaid : Prop := Claim7.holds Tryd.pinned (.plain (OpenSpec.upto bitsLessSpec)) bitsLessUptoCard

/-- THE SECOND FORM's CARD OF 'commonagelaw04.BitsWalk'. -/
def bitsWalkUptoCard : Claim7 := { stood := { row := bitsWalkUptoRow, standIns := [], harness := (true, "c4d59a198c7ae15c0d92cfe6c24f5ea686418c15f69f21e2982719c531f6d636"), looks := false }, kinds := [], alts := [], laidByText := true, laidKinds := [.data], laidTests := true, laidLooks := .later }
def BitsWalkUptoCardSaid : Prop := Claim7.holds Tryd.pinned (.plain (OpenSpec.upto bitsWalkSpec)) bitsWalkUptoCard

/-- THE SECOND FORM's CARD OF 'commonagelaw04.BitsBoth'. -/
def bitsBothUptoCard : Claim7 := { stood := { row := bitsBothUptoRow, standIns := [], harness := (true, "c4d59a198c7ae15c0d92cfe6c24f5ea686418c15f69f21e2982719c531f6d636"), looks := false }, kinds := [], alts := [], laidByText := true, laidKinds := [.data], laidTests := true, laidLooks := .later }
def BitsBothUptoCardSaid : Prop := Claim7.holds Tryd.pinned (.plain (OpenSpec.upto bitsBothSpec)) bitsBothUptoCard

/-- THE SECOND FORM's CARD OF 'commonagelaw04.BitsPlay'. -/
def bitsPlayUptoCard : Claim7 := { stood := { row := bitsPlayUptoRow, standIns := [], harness := (true, "c4d59a198c7ae15c0d92cfe6c24f5ea686418c15f69f21e2982719c531f6d636"), looks := false }, kinds := [], alts := [], laidByText := true, laidKinds := [.data], laidTests := true, laidLooks := .later }
def BitsPlayUptoCardSaid : Prop := Claim7.holds Tryd.pinned (.plain (OpenSpec.upto bitsPlaySpec)) bitsPlayUptoCard

/-- THE SECOND FORM's CARD OF 'commonagelaw04.BitsAgain'. -/
def bitsAgainUptoCard : Claim7 := { stood := { row := bitsAgainUptoRow, standIns := [], harness := (true, "c4d59a198c7ae15c0d92cfe6c24f5ea686418c15f69f21e2982719c531f6d636"), looks := false }, kinds := [], alts := [], laidByText := true, laidKinds := [.data], laidTests := true, laidLooks := .later }
def BitsAgainUptoCardSaid : Prop := Claim7.holds Tryd.pinned (.plain (OpenSpec.upto bitsAgainSpec)) bitsAgainUptoCard

/-- THE SECOND FORM's CARD OF 'commonagelaw04.BitsWords'. -/
def bitsWordsUptoCard : Claim7 := { stood := { row := bitsWordsUptoRow, standIns := [], harness := (true, "c4d59a198c7ae15c0d92cfe6c24f5ea686418c15f69f21e2982719c531f6d636"), looks := false }, kinds := [], alts := [], laidByText := true, laidKinds := [.data], laidTests := true, laidLooks := .later }
def BitsWordsUptoCardSaid : Prop := Claim7.holds Tryd.pinned (.plain (OpenSpec.upto bitsWordsSpec)) bitsWordsUptoCard

/-- THE SECOND FORM's CARD OF 'commonagelaw04.BitsApart'. -/
def bitsApartUptoCard : Claim7 := { stood := { row := bitsApartUptoRow, standIns := [], harness := (true, "c4d59a198c7ae15c0d92cfe6c24f5ea686418c15f69f21e2982719c531f6d636"), looks := false }, kinds := [], alts := [], laidByText := true, laidKinds := [.data], laidTests := true, laidLooks := .later }
def BitsApartUptoCardSaid : Prop := Claim7.holds Tryd.pinned (.plain (OpenSpec.upto bitsApartSpec)) bitsApartUptoCard

/-- THE SECOND FORM's CARD OF 'commonagelaw14.PinsCount'. -/
def pinsCountUptoCard : Claim7 := { stood := { row := pinsCountUptoRow, standIns := [], harness := (true, "c4d59a198c7ae15c0d92cfe6c24f5ea686418c15f69f21e2982719c531f6d636"), looks := false }, kinds := [], alts := [], laidByText := true, laidKinds := [.data], laidTests := true, laidLooks := .later }
def PinsCountUptoCardSaid : Prop := Claim7.holds Tryd.pinned (.plain (OpenSpec.upto pinsCountSpec)) pinsCountUptoCard

/-- THE SECOND FORM's CARD OF 'commonagelaw14.PinsPlay'. -/
def pinsPlayUptoCard : Claim7 := { stood := { row := pinsPlayUptoRow, standIns := [], harness := (true, "c4d59a198c7ae15c0d92cfe6c24f5ea686418c15f69f21e2982719c531f6d636"), looks := false }, kinds := [], alts := [], laidByText := true, laidKinds := [.data], laidTests := true, laidLooks := .later }
def PinsPlayUptoCardSaid : Prop := Claim7.holds Tryd.pinned (.plain (OpenSpec.upto pinsPlaySpec)) pinsPlayUptoCard

/-- THE SECOND FORM's CARD OF 'commonagelaw14.PinsNone'. -/
def pinsNoneUptoCard : Claim7 := { stood := { row := pinsNoneUptoRow, standIns := [], harness := (true, "c4d59a198c7ae15c0d92cfe6c24f5ea686418c15f69f21e2982719c531f6d636"), looks := false }, kinds := [], alts := [], laidByText := true, laidKinds := [.data], laidTests := true, laidLooks := .later }
def PinsNoneUptoCardSaid : Prop := Claim7.holds Tryd.pinned (.plain (OpenSpec.upto pinsNoneSpec)) pinsNoneUptoCard
end Rows
end Go.Proofs.YtfhnjecnamgpkaaDoor
