/-
  NARROWER THAN 'FOR EVERY INPUT', by the rows' own cells (each row's printed sentence says how): BitsLess: laid · BitsWalk: laid · BitsBoth: laid · BitsPlay: laid · BitsAgain: laid · BitsWords: laid · BitsApart: laid · PinsCount: laid · PinsPlay: laid · PinsNone: laid.
  DERIVED. THE GIVEN ROWS OF THIS SEAT. 10 by the template 'for every input the law returns true; each argument reads behind the call as it read before'; 0 by the template 'total and deterministic' (their statements: YtfhnjecnamgpkaaDoorTotals.lean).
  GIVEN WITH THE SEED: the statements are not yours to turn. If you find one false, say at which input.
  Laid BY PROGRAM, IN A SANDBOX (cutbox-rows.mjs): the forced cells as the released guide's own fill.sh prints them over the translation 39f4629fb9b03f4c… (all of the seat's roots in one cut). By AI agents, Wed Nov 11 2026. No macro, syntax, notation, axiom, sorry.
-/
import Derived.Test.YtfhnjecnamgpkaaDoorChecked
import GoSem.Claim
import GoSem.ClaimJoined
import GoSem.ClaimMapViews
import Derived.JoinedTies
import Derived.KernelRfl
namespace Go.Proofs.YtfhnjecnamgpkaaDoor
/- THE CELL 'sum', in the pinned program and in every row, IS THE sha256 OF THE DUMP (.gsa) THAT YtfhnjecnamgpkaaDoorProg.lean LOADS. Nothing in Lean hashes anything: it is a label: what it is worth is what the hold of that sum in a sandbox is worth. -/
noncomputable def Tryd.pinned : Pinned := { name := "ytfhnjecnamgpkaadoor", sum := "39f4629fb9b03f4cf77d0ec2b5781e33bcb3382e53b6af08843fe59882008a8c", checked := Tryd.checked }
namespace Rows
def none {H : Type} : Left H := { results := [], args := [] }

/- WHAT THE LISTED PACKAGE-LEVEL VARIABLES READ AS WHEN THE CALL BEGINS. Each datum BY PROGRAM (the guide's laid-datum.mjs) off the statement by which the dump's own 'gosem.cut.vars' lays the variable. In a bare row this is a premise. The card (YtfhnjecnamgpkaaDoorCards.lean) ties it to the program's text. -/
def laid_math_bits_deBruijn64tab {H : Type} : DataW H := .agg [.lit (.int .u8 0), .lit (.int .u8 1), .lit (.int .u8 56), .lit (.int .u8 2), .lit (.int .u8 57), .lit (.int .u8 49), .lit (.int .u8 28), .lit (.int .u8 3), .lit (.int .u8 61), .lit (.int .u8 58), .lit (.int .u8 42), .lit (.int .u8 50), .lit (.int .u8 38), .lit (.int .u8 29), .lit (.int .u8 17), .lit (.int .u8 4), .lit (.int .u8 62), .lit (.int .u8 47), .lit (.int .u8 59), .lit (.int .u8 36), .lit (.int .u8 45), .lit (.int .u8 43), .lit (.int .u8 51), .lit (.int .u8 22), .lit (.int .u8 53), .lit (.int .u8 39), .lit (.int .u8 33), .lit (.int .u8 30), .lit (.int .u8 24), .lit (.int .u8 18), .lit (.int .u8 12), .lit (.int .u8 5), .lit (.int .u8 63), .lit (.int .u8 55), .lit (.int .u8 48), .lit (.int .u8 27), .lit (.int .u8 60), .lit (.int .u8 41), .lit (.int .u8 37), .lit (.int .u8 16), .lit (.int .u8 46), .lit (.int .u8 35), .lit (.int .u8 44), .lit (.int .u8 21), .lit (.int .u8 52), .lit (.int .u8 32), .lit (.int .u8 23), .lit (.int .u8 11), .lit (.int .u8 54), .lit (.int .u8 26), .lit (.int .u8 40), .lit (.int .u8 15), .lit (.int .u8 34), .lit (.int .u8 20), .lit (.int .u8 31), .lit (.int .u8 10), .lit (.int .u8 25), .lit (.int .u8 14), .lit (.int .u8 19), .lit (.int .u8 9), .lit (.int .u8 13), .lit (.int .u8 8), .lit (.int .u8 7), .lit (.int .u8 6)]

/-- 'commonagelaw04.BitsLess': WHATEVER THE INPUT: true; the input reads as it did. -/
def bitsLessSpec : ChangeSpec := { name := "bitsLess", fn := fun _ => fun
  | [d1, d2, d3] => { results := [.lit (.bool true)], args := [d1, d2, d3] }
  | _ => none }
def bitsLessRow : OpenClaim := { program := "ytfhnjecnamgpkaadoor", sum := "39f4629fb9b03f4cf77d0ec2b5781e33bcb3382e53b6af08843fe59882008a8c", func := "commonage/commonagelaw04.BitsLess", spec := "bitsLess", unfollowed := true, recurses := true, named := ["math/bits.deBruijn64tab"], apart := false, laid := [("math/bits.deBruijn64tab", laid_math_bits_deBruijn64tab)] }
def BitsLessSaid : Prop := bitsLessRow.holds Tryd.pinned (OpenSpec.ofChange bitsLessSpec)

/-- ITS FALSE NEIGHBOUR: 'it returns false'. Refute it at one input. -/
def bitsLessWrong : ChangeSpec := { name := "bitsLess", fn := fun _ => fun
  | [d1, d2, d3] => { results := [.lit (.bool false)], args := [d1, d2, d3] }
  | _ => none }
def BitsLessWrongFalsely : Prop := bitsLessRow.holds Tryd.pinned (OpenSpec.ofChange bitsLessWrong)

/-- 'commonagelaw04.BitsWalk': WHATEVER THE INPUT: true; the input reads as it did. -/
def bitsWalkSpec : ChangeSpec := { name := "bitsWalk", fn := fun _ => fun
  | [d1, d2, d3] => { results := [.lit (.bool true)], args := [d1, d2, d3] }
  | _ => none }
def bitsWalkRow : OpenClaim := { program := "ytfhnjecnamgpkaadoor", sum := "39f4629fb9b03f4cf77d0ec2b5781e33bcb3382e53b6af08843fe59882008a8c", func := "commonage/commonagelaw04.BitsWalk", spec := "bitsWalk", unfollowed := true, recurses := true, named := ["math/bits.deBruijn64tab"], apart := false, laid := [("math/bits.deBruijn64tab", laid_math_bits_deBruijn64tab)] }
def BitsWalkSaid : Prop := bitsWalkRow.holds Tryd.pinned (OpenSpec.ofChange bitsWalkSpec)

/-- ITS FALSE NEIGHBOUR: 'it returns false'. Refute it at one input. -/
def bitsWalkWrong : ChangeSpec := { name := "bitsWalk", fn := fun _ => fun
  | [d1, d2, d3] => { results := [.lit (.bool false)], args := [d1, d2, d3] }
  | _ => none }
def BitsWalkWrongFalsely : Prop := bitsWalkRow.holds Tryd.pinned (OpenSpec.ofChange bitsWalkWrong)

/-- 'commonagelaw04.BitsBoth': WHATEVER THE INPUT: true; the input reads as it did. -/
def bitsBothSpec : ChangeSpec := { name := "bitsBoth", fn := fun _ => fun
  | [d1, d2, d3] => { results := [.lit (.bool true)], args := [d1, d2, d3] }
  | _ => none }
def bitsBothRow : OpenClaim := { program := "ytfhnjecnamgpkaadoor", sum := "39f4629fb9b03f4cf77d0ec2b5781e33bcb3382e53b6af08843fe59882008a8c", func := "commonage/commonagelaw04.BitsBoth", spec := "bitsBoth", unfollowed := true, recurses := true, named := ["math/bits.deBruijn64tab"], apart := false, laid := [("math/bits.deBruijn64tab", laid_math_bits_deBruijn64tab)] }
def BitsBothSaid : Prop := bitsBothRow.holds Tryd.pinned (OpenSpec.ofChange bitsBothSpec)

/-- ITS FALSE NEIGHBOUR: 'it returns false'. Refute it at one input. -/
def bitsBothWrong : ChangeSpec := { name := "bitsBoth", fn := fun _ => fun
  | [d1, d2, d3] => { results := [.lit (.bool false)], args := [d1, d2, d3] }
  | _ => none }
def BitsBothWrongFalsely : Prop := bitsBothRow.holds Tryd.pinned (OpenSpec.ofChange bitsBothWrong)

/-- 'commonagelaw04.BitsPlay': WHATEVER THE INPUT: true; the input reads as it did. -/
def bitsPlaySpec : ChangeSpec := { name := "bitsPlay", fn := fun _ => fun
  | [d1, d2] => { results := [.lit (.bool true)], args := [d1, d2] }
  | _ => none }
def bitsPlayRow : OpenClaim := { program := "ytfhnjecnamgpkaadoor", sum := "39f4629fb9b03f4cf77d0ec2b5781e33bcb3382e53b6af08843fe59882008a8c", func := "commonage/commonagelaw04.BitsPlay", spec := "bitsPlay", unfollowed := true, recurses := true, named := ["math/bits.deBruijn64tab"], apart := false, laid := [("math/bits.deBruijn64tab", laid_math_bits_deBruijn64tab)] }
def BitsPlaySaid : Prop := bitsPlayRow.holds Tryd.pinned (OpenSpec.ofChange bitsPlaySpec)

/-- ITS FALSE NEIGHBOUR: 'it returns false'. Refute it at one input. -/
def bitsPlayWrong : ChangeSpec := { name := "bitsPlay", fn := fun _ => fun
  | [d1, d2] => { results := [.lit (.bool false)], args := [d1, d2] }
  | _ => none }
def BitsPlayWrongFalsely : Prop := bitsPlayRow.holds Tryd.pinned (OpenSpec.ofChange bitsPlayWrong)

/-- 'commonagelaw04.BitsAgain': WHATEVER THE INPUT: true; the input reads as it did. -/
def bitsAgainSpec : ChangeSpec := { name := "bitsAgain", fn := fun _ => fun
  | [d1, d2, d3] => { results := [.lit (.bool true)], args := [d1, d2, d3] }
  | _ => none }
def bitsAgainRow : OpenClaim := { program := "ytfhnjecnamgpkaadoor", sum := "39f4629fb9b03f4cf77d0ec2b5781e33bcb3382e53b6af08843fe59882008a8c", func := "commonage/commonagelaw04.BitsAgain", spec := "bitsAgain", unfollowed := true, recurses := true, named := ["math/bits.deBruijn64tab"], apart := false, laid := [("math/bits.deBruijn64tab", laid_math_bits_deBruijn64tab)] }
def BitsAgainSaid : Prop := bitsAgainRow.holds Tryd.pinned (OpenSpec.ofChange bitsAgainSpec)

/-- ITS FALSE NEIGHBOUR: 'it returns false'. Refute it at one input. -/
def bitsAgainWrong : ChangeSpec := { name := "bitsAgain", fn := fun _ => fun
  | [d1, d2, d3] => { results := [.lit (.bool false)], args := [d1, d2, d3] }
  | _ => none }
def BitsAgainWrongFalsely : Prop := bitsAgainRow.holds Tryd.pinned (OpenSpec.ofChange bitsAgainWrong)

/-- 'commonagelaw04.BitsWords': WHATEVER THE INPUT: true; the input reads as it did. -/
def bitsWordsSpec : ChangeSpec := { name := "bitsWords", fn := fun _ => fun
  | [d1, d2, d3] => { results := [.lit (.bool true)], args := [d1, d2, d3] }
  | _ => none }
def bitsWordsRow : OpenClaim := { program := "ytfhnjecnamgpkaadoor", sum := "39f4629fb9b03f4cf77d0ec2b5781e33bcb3382e53b6af08843fe59882008a8c", func := "commonage/commonagelaw04.BitsWords", spec := "bitsWords", unfollowed := true, recurses := true, named := ["math/bits.deBruijn64tab"], apart := false, laid := [("math/bits.deBruijn64tab", laid_math_bits_deBruijn64tab)] }
def BitsWordsSaid : Prop := bitsWordsRow.holds Tryd.pinned (OpenSpec.ofChange bitsWordsSpec)

/-- ITS FALSE NEIGHBOUR: 'it returns false'. Refute it at one input. -/
def bitsWordsWrong : ChangeSpec := { name := "bitsWords", fn := fun _ => fun
  | [d1, d2, d3] => { results := [.lit (.bool false)], args := [d1, d2, d3] }
  | _ => none }
def BitsWordsWrongFalsely : Prop := bitsWordsRow.holds Tryd.pinned (OpenSpec.ofChange bitsWordsWrong)

/-- 'commonagelaw04.BitsApart': WHATEVER THE INPUT: true; the input reads as it did. -/
def bitsApartSpec : ChangeSpec := { name := "bitsApart", fn := fun _ => fun
  | [d1, d2, d3] => { results := [.lit (.bool true)], args := [d1, d2, d3] }
  | _ => none }
def bitsApartRow : OpenClaim := { program := "ytfhnjecnamgpkaadoor", sum := "39f4629fb9b03f4cf77d0ec2b5781e33bcb3382e53b6af08843fe59882008a8c", func := "commonage/commonagelaw04.BitsApart", spec := "bitsApart", unfollowed := true, recurses := true, named := ["math/bits.deBruijn64tab"], apart := false, laid := [("math/bits.deBruijn64tab", laid_math_bits_deBruijn64tab)] }
def BitsApartSaid : Prop := bitsApartRow.holds Tryd.pinned (OpenSpec.ofChange bitsApartSpec)

/-- ITS FALSE NEIGHBOUR: 'it returns false'. Refute it at one input. -/
def bitsApartWrong : ChangeSpec := { name := "bitsApart", fn := fun _ => fun
  | [d1, d2, d3] => { results := [.lit (.bool false)], args := [d1, d2, d3] }
  | _ => none }
def BitsApartWrongFalsely : Prop := bitsApartRow.holds Tryd.pinned (OpenSpec.ofChange bitsApartWrong)

/-- 'commonagelaw14.PinsCount': WHATEVER THE INPUT: true; the input reads as it did. -/
def pinsCountSpec : ChangeSpec := { name := "pinsCount", fn := fun _ => fun
  | [d1, d2] => { results := [.lit (.bool true)], args := [d1, d2] }
  | _ => none }
def pinsCountRow : OpenClaim := { program := "ytfhnjecnamgpkaadoor", sum := "39f4629fb9b03f4cf77d0ec2b5781e33bcb3382e53b6af08843fe59882008a8c", func := "commonage/commonagelaw14.PinsCount", spec := "pinsCount", unfollowed := true, recurses := true, named := ["math/bits.deBruijn64tab"], apart := false, laid := [("math/bits.deBruijn64tab", laid_math_bits_deBruijn64tab)] }
def PinsCountSaid : Prop := pinsCountRow.holds Tryd.pinned (OpenSpec.ofChange pinsCountSpec)

/-- ITS FALSE NEIGHBOUR: 'it returns false'. Refute it at one input. -/
def pinsCountWrong : ChangeSpec := { name := "pinsCount", fn := fun _ => fun
  | [d1, d2] => { results := [.lit (.bool false)], args := [d1, d2] }
  | _ => none }
def PinsCountWrongFalsely : Prop := pinsCountRow.holds Tryd.pinned (OpenSpec.ofChange pinsCountWrong)

/-- 'commonagelaw14.PinsPlay': WHATEVER THE INPUT: true; the input reads as it did. -/
def pinsPlaySpec : ChangeSpec := { name := "pinsPlay", fn := fun _ => fun
  | [d1, d2, d3] => { results := [.lit (.bool true)], args := [d1, d2, d3] }
  | _ => none }
def pinsPlayRow : OpenClaim := { program := "ytfhnjecnamgpkaadoor", sum := "39f4629fb9b03f4cf77d0ec2b5781e33bcb3382e53b6af08843fe59882008a8c", func := "commonage/commonagelaw14.PinsPlay", spec := "pinsPlay", unfollowed := true, recurses := true, named := ["math/bits.deBruijn64tab"], apart := false, laid := [("math/bits.deBruijn64tab", laid_math_bits_deBruijn64tab)] }
def PinsPlaySaid : Prop := pinsPlayRow.holds Tryd.pinned (OpenSpec.ofChange pinsPlaySpec)

/-- ITS FALSE NEIGHBOUR: 'it returns false'. Refute it at one input. -/
def pinsPlayWrong : ChangeSpec := { name := "pinsPlay", fn := fun _ => fun
  | [d1, d2, d3] => { results := [.lit (.bool false)], args := [d1, d2, d3] }
  | _ => none }
def PinsPlayWrongFalsely : Prop := pinsPlayRow.holds Tryd.pinned (OpenSpec.ofChange pinsPlayWrong)

/-- 'commonagelaw14.PinsNone': WHATEVER THE INPUT: true; the input reads as it did. -/
def pinsNoneSpec : ChangeSpec := { name := "pinsNone", fn := fun _ => fun
  | [d] => { results := [.lit (.bool true)], args := [d] }
  | _ => none }
def pinsNoneRow : OpenClaim := { program := "ytfhnjecnamgpkaadoor", sum := "39f4629fb9b03f4cf77d0ec2b5781e33bcb3382e53b6af08843fe59882008a8c", func := "commonage/commonagelaw14.PinsNone", spec := "pinsNone", unfollowed := true, recurses := true, named := ["math/bits.deBruijn64tab"], apart := false, laid := [("math/bits.deBruijn64tab", laid_math_bits_deBruijn64tab)] }
def PinsNoneSaid : Prop := pinsNoneRow.holds Tryd.pinned (OpenSpec.ofChange pinsNoneSpec)

/-- ITS FALSE NEIGHBOUR: 'it returns false'. Refute it at one input. -/
def pinsNoneWrong : ChangeSpec := { name := "pinsNone", fn := fun _ => fun
  | [d] => { results := [.lit (.bool false)], args := [d] }
  | _ => none }
def PinsNoneWrongFalsely : Prop := pinsNoneRow.holds Tryd.pinned (OpenSpec.ofChange pinsNoneWrong)

/- THE SECOND FORM. 'bulk': how many values and letters a reading holds, each counted each time it is reached (what is shared counts as often as it is met; a slice's spare places count too). A statement '..UptoSaid' is the law's where the arguments, and the package variables that the reading takes, are together of bulk at most 1048576: NARROWER than '..Said'. Prove '..Said' where nothing that the law and all that it calls make is longer than what came in: it says more and counts as full. Else prove '..UptoSaid'. A law counts once. -/
mutual
def uptoBulk {H : Type} : DataW H → Nat
  | .lit (.string bytes) => bytes.length + 1
  | .lit _ => 1
  | .nil => 1
  | .ptr d => uptoBulk d + 1
  | .slice elems spare => uptoBulkAll elems + uptoBulkAll spare + 1
  | .agg parts => uptoBulkAll parts + 1
  | .iface _ d => uptoBulk d + 1
  | .map entries => uptoBulkEntries entries + 1
  | .held _ => 1
def uptoBulkAll {H : Type} : List (DataW H) → Nat
  | [] => 0
  | d :: r => uptoBulk d + uptoBulkAll r
def uptoBulkEntries {H : Type} : List (Lit × DataW H) → Nat
  | [] => 0
  | x :: r => uptoBulkEntry x + uptoBulkEntries r
def uptoBulkEntry {H : Type} : Lit × DataW H → Nat
  | (.string bytes, d) => bytes.length + uptoBulk d + 1
  | (_, d) => uptoBulk d + 1
 end
def uptoSmall : (H : Type) → List (DataW H) → Bool := fun _ ds => decide (uptoBulkAll ds ≤ 1048576)
def OpenSpec.upto (s : _root_.Go.ChangeSpec) : _root_.Go.OpenSpec := { _root_.Go.OpenSpec.ofChange s with cond := some uptoSmall }

/-- 'commonagelaw04.BitsLess', WHERE WHAT IT READS IS OF BULK AT MOST 1048576: true; the input reads as it did. -/
def bitsLessUptoRow : OpenClaim := { program := "ytfhnjecnamgpkaadoor", sum := "39f4629fb9b03f4cf77d0ec2b5781e33bcb3382e53b6af08843fe59882008a8c", func := "commonage/commonagelaw04.BitsLess", spec := "bitsLess", unfollowed := true, recurses := true, named := ["math/bits.deBruijn64tab"], apart := false, laid := [("math/bits.deBruijn64tab", laid_math_bits_deBruijn64tab)], narrowed := true }
def BitsLessUptoSaid : Prop := bitsLessUptoRow.holds Tryd.pinned (OpenSpec.upto bitsLessSpec)

/-- 'commonagelaw04.BitsWalk', WHERE WHAT IT READS IS OF BULK AT MOST 1048576: true; the input reads as it did. -/
def bitsWalkUptoRow : OpenClaim := { program := "ytfhnjecnamgpkaadoor", sum := "39f4629fb9b03f4cf77d0ec2b5781e33bcb3382e53b6af08843fe59882008a8c", func := "commonage/commonagelaw04.BitsWalk", spec := "bitsWalk", unfollowed := true, recurses := true, named := ["math/bits.deBruijn64tab"], apart := false, laid := [("math/bits.deBruijn64tab", laid_math_bits_deBruijn64tab)], narrowed := true }
def BitsWalkUptoSaid : Prop := bitsWalkUptoRow.holds Tryd.pinned (OpenSpec.upto bitsWalkSpec)

/-- 'commonagelaw04.BitsBoth', WHERE WHAT IT READS IS OF BULK AT MOST 1048576: true; the input reads as it did. -/
def bitsBothUptoRow : OpenClaim := { program := "ytfhnjecnamgpkaadoor", sum := "39f4629fb9b03f4cf77d0ec2b5781e33bcb3382e53b6af08843fe59882008a8c", func := "commonage/commonagelaw04.BitsBoth", spec := "bitsBoth", unfollowed := true, recurses := true, named := ["math/bits.deBruijn64tab"], apart := false, laid := [("math/bits.deBruijn64tab", laid_math_bits_deBruijn64tab)], narrowed := true }
def BitsBothUptoSaid : Prop := bitsBothUptoRow.holds Tryd.pinned (OpenSpec.upto bitsBothSpec)

/-- 'commonagelaw04.BitsPlay', WHERE WHAT IT READS IS OF BULK AT MOST 1048576: true; the input reads as it did. -/
def bitsPlayUptoRow : OpenClaim := { program := "ytfhnjecnamgpkaadoor", sum := "39f4629fb9b03f4cf77d0ec2b5781e33bcb3382e53b6af08843fe59882008a8c", func := "commonage/commonagelaw04.BitsPlay", spec := "bitsPlay", unfollowed := true, recurses := true, named := ["math/bits.deBruijn64tab"], apart := false, laid := [("math/bits.deBruijn64tab", laid_math_bits_deBruijn64tab)], narrowed := true }
def BitsPlayUptoSaid : Prop := bitsPlayUptoRow.holds Tryd.pinned (OpenSpec.upto bitsPlaySpec)

/-- 'commonagelaw04.BitsAgain', WHERE WHAT IT READS IS OF BULK AT MOST 1048576: true; the input reads as it did. -/
def bitsAgainUptoRow : OpenClaim := { program := "ytfhnjecnamgpkaadoor", sum := "39f4629fb9b03f4cf77d0ec2b5781e33bcb3382e53b6af08843fe59882008a8c", func := "commonage/commonagelaw04.BitsAgain", spec := "bitsAgain", unfollowed := true, recurses := true, named := ["math/bits.deBruijn64tab"], apart := false, laid := [("math/bits.deBruijn64tab", laid_math_bits_deBruijn64tab)], narrowed := true }
def BitsAgainUptoSaid : Prop := bitsAgainUptoRow.holds Tryd.pinned (OpenSpec.upto bitsAgainSpec)

/-- 'commonagelaw04.BitsWords', WHERE WHAT IT READS IS OF BULK AT MOST 1048576: true; the input reads as it did. -/
def bitsWordsUptoRow : OpenClaim := { program := "ytfhnjecnamgpkaadoor", sum := "39f4629fb9b03f4cf77d0ec2b5781e33bcb3382e53b6af08843fe59882008a8c", func := "commonage/commonagelaw04.BitsWords", spec := "bitsWords", unfollowed := true, recurses := true, named := ["math/bits.deBruijn64tab"], apart := false, laid := [("math/bits.deBruijn64tab", laid_math_bits_deBruijn64tab)], narrowed := true }
def BitsWordsUptoSaid : Prop := bitsWordsUptoRow.holds Tryd.pinned (OpenSpec.upto bitsWordsSpec)

/-- 'commonagelaw04.BitsApart', WHERE WHAT IT READS IS OF BULK AT MOST 1048576: true; the input reads as it did. -/
def bitsApartUptoRow : OpenClaim := { program := "ytfhnjecnamgpkaadoor", sum := "39f4629fb9b03f4cf77d0ec2b5781e33bcb3382e53b6af08843fe59882008a8c", func := "commonage/commonagelaw04.BitsApart", spec := "bitsApart", unfollowed := true, recurses := true, named := ["math/bits.deBruijn64tab"], apart := false, laid := [("math/bits.deBruijn64tab", laid_math_bits_deBruijn64tab)], narrowed := true }
def BitsApartUptoSaid : Prop := bitsApartUptoRow.holds Tryd.pinned (OpenSpec.upto bitsApartSpec)

/-- 'commonagelaw14.PinsCount', WHERE WHAT IT READS IS OF BULK AT MOST 1048576: true; the input reads as it did. -/
def pinsCountUptoRow : OpenClaim := { program := "ytfhnjecnamgpkaadoor", sum := "39f4629fb9b03f4cf77d0ec2b5781e33bcb3382e53b6af08843fe59882008a8c", func := "commonage/commonagelaw14.PinsCount", spec := "pinsCount", unfollowed := true, recurses := true, named := ["math/bits.deBruijn64tab"], apart := false, laid := [("math/bits.deBruijn64tab", laid_math_bits_deBruijn64tab)], narrowed := true }
def PinsCountUptoSaid : Prop := pinsCountUptoRow.holds Tryd.pinned (OpenSpec.upto pinsCountSpec)

/-- 'commonagelaw14.PinsPlay', WHERE WHAT IT READS IS OF BULK AT MOST 1048576: true; the input reads as it did. -/
def pinsPlayUptoRow : OpenClaim := { program := "ytfhnjecnamgpkaadoor", sum := "39f4629fb9b03f4cf77d0ec2b5781e33bcb3382e53b6af08843fe59882008a8c", func := "commonage/commonagelaw14.PinsPlay", spec := "pinsPlay", unfollowed := true, recurses := true, named := ["math/bits.deBruijn64tab"], apart := false, laid := [("math/bits.deBruijn64tab", laid_math_bits_deBruijn64tab)], narrowed := true }
def PinsPlayUptoSaid : Prop := pinsPlayUptoRow.holds Tryd.pinned (OpenSpec.upto pinsPlaySpec)

/-- 'commonagelaw14.PinsNone', WHERE WHAT IT READS IS OF BULK AT MOST 1048576: true; the input reads as it did. -/
def pinsNoneUptoRow : OpenClaim := { program := "ytfhnjecnamgpkaadoor", sum := "39f4629fb9b03f4cf77d0ec2b5781e33bcb3382e53b6af08843fe59882008a8c", func := "commonage/commonagelaw14.PinsNone", spec := "pinsNone", unfollowed := true, recurses := true, named := ["math/bits.deBruijn64tab"], apart := false, laid := [("math/bits.deBruijn64tab", laid_math_bits_deBruijn64tab)], narrowed := true }
def PinsNoneUptoSaid : Prop := pinsNoneUptoRow.holds Tryd.pinned (OpenSpec.upto pinsNoneSpec)

end Rows
end Go.Proofs.YtfhnjecnamgpkaaDoor
