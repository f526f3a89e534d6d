/-
  NARROWER THAN 'FOR EVERY INPUT', by the rows' own cells (each row's printed sentence says how): GreyAll: laid · ArenaPlays: laid · ArenaRoom: laid · ArenaLowest: laid · ArenaEach: laid · GreyPlays: laid · GreyQueue: laid · ArenaApart: laid.
  DERIVED. THE GIVEN ROWS OF THIS SEAT. 8 by the template 'for every input the law returns true; each argument reads behind the call as it read before'; 0 by the template 'total and deterministic' (their statements: YtlhajoamebfniaaDoorTotals.lean).
  GIVEN WITH THE SEED: the statements are not yours to turn. If you find one false, say at which input.
  Laid BY PROGRAM, IN A SANDBOX (cutbox-rows.mjs): the forced cells as the released guide's own fill.sh prints them over the translation c2eea65a2b4ae3af… (all of the seat's roots in one cut). By AI agents, Wed Nov 11 2026. No macro, syntax, notation, axiom, sorry.
-/
import Derived.Test.YtlhajoamebfniaaDoorChecked
import GoSem.Claim
import GoSem.ClaimJoined
import GoSem.ClaimMapViews
import Derived.JoinedTies
import Derived.KernelRfl
namespace Go.Proofs.YtlhajoamebfniaaDoor
/- THE CELL 'sum', in the pinned program and in every row, IS THE sha256 OF THE DUMP (.gsa) THAT YtlhajoamebfniaaDoorProg.lean LOADS. Nothing in Lean hashes anything: it is a label: what it is worth is what the hold of that sum in a sandbox is worth. -/
noncomputable def Tryd.pinned : Pinned := { name := "ytlhajoamebfniaadoor", sum := "c2eea65a2b4ae3afd3b293625a6467ae69732e501ae9100731518444e3ae8411", checked := Tryd.checked }
namespace Rows
def none {H : Type} : Left H := { results := [], args := [] }

/- WHAT THE LISTED PACKAGE-LEVEL VARIABLES READ AS WHEN THE CALL BEGINS. Each datum BY PROGRAM (the guide's laid-datum.mjs) off the statement by which the dump's own 'gosem.cut.vars' lays the variable. In a bare row this is a premise. The card (YtlhajoamebfniaaDoorCards.lean) ties it to the program's text. -/
def laid_math_bits_deBruijn64tab {H : Type} : DataW H := .agg [.lit (.int .u8 0), .lit (.int .u8 1), .lit (.int .u8 56), .lit (.int .u8 2), .lit (.int .u8 57), .lit (.int .u8 49), .lit (.int .u8 28), .lit (.int .u8 3), .lit (.int .u8 61), .lit (.int .u8 58), .lit (.int .u8 42), .lit (.int .u8 50), .lit (.int .u8 38), .lit (.int .u8 29), .lit (.int .u8 17), .lit (.int .u8 4), .lit (.int .u8 62), .lit (.int .u8 47), .lit (.int .u8 59), .lit (.int .u8 36), .lit (.int .u8 45), .lit (.int .u8 43), .lit (.int .u8 51), .lit (.int .u8 22), .lit (.int .u8 53), .lit (.int .u8 39), .lit (.int .u8 33), .lit (.int .u8 30), .lit (.int .u8 24), .lit (.int .u8 18), .lit (.int .u8 12), .lit (.int .u8 5), .lit (.int .u8 63), .lit (.int .u8 55), .lit (.int .u8 48), .lit (.int .u8 27), .lit (.int .u8 60), .lit (.int .u8 41), .lit (.int .u8 37), .lit (.int .u8 16), .lit (.int .u8 46), .lit (.int .u8 35), .lit (.int .u8 44), .lit (.int .u8 21), .lit (.int .u8 52), .lit (.int .u8 32), .lit (.int .u8 23), .lit (.int .u8 11), .lit (.int .u8 54), .lit (.int .u8 26), .lit (.int .u8 40), .lit (.int .u8 15), .lit (.int .u8 34), .lit (.int .u8 20), .lit (.int .u8 31), .lit (.int .u8 10), .lit (.int .u8 25), .lit (.int .u8 14), .lit (.int .u8 19), .lit (.int .u8 9), .lit (.int .u8 13), .lit (.int .u8 8), .lit (.int .u8 7), .lit (.int .u8 6)]

/-- 'commonagelaw17.GreyAll': WHATEVER THE INPUT: true; the input reads as it did. -/
def greyAllSpec : ChangeSpec := { name := "greyAll", fn := fun _ => fun
  | [d1, d2] => { results := [.lit (.bool true)], args := [d1, d2] }
  | _ => none }
def greyAllRow : OpenClaim := { program := "ytlhajoamebfniaadoor", sum := "c2eea65a2b4ae3afd3b293625a6467ae69732e501ae9100731518444e3ae8411", func := "commonage/commonagelaw17.GreyAll", spec := "greyAll", unfollowed := true, recurses := true, named := ["math/bits.deBruijn64tab"], apart := false, laid := [("math/bits.deBruijn64tab", laid_math_bits_deBruijn64tab)] }
def GreyAllSaid : Prop := greyAllRow.holds Tryd.pinned (OpenSpec.ofChange greyAllSpec)

/-- ITS FALSE NEIGHBOUR: 'it returns false'. Refute it at one input. -/
def greyAllWrong : ChangeSpec := { name := "greyAll", fn := fun _ => fun
  | [d1, d2] => { results := [.lit (.bool false)], args := [d1, d2] }
  | _ => none }
def GreyAllWrongFalsely : Prop := greyAllRow.holds Tryd.pinned (OpenSpec.ofChange greyAllWrong)

/-- 'commonagelaw10.ArenaPlays': WHATEVER THE INPUT: true; the input reads as it did. -/
def arenaPlaysSpec : ChangeSpec := { name := "arenaPlays", fn := fun _ => fun
  | [d1, d2, d3] => { results := [.lit (.bool true)], args := [d1, d2, d3] }
  | _ => none }
def arenaPlaysRow : OpenClaim := { program := "ytlhajoamebfniaadoor", sum := "c2eea65a2b4ae3afd3b293625a6467ae69732e501ae9100731518444e3ae8411", func := "commonage/commonagelaw10.ArenaPlays", spec := "arenaPlays", unfollowed := true, recurses := true, named := ["math/bits.deBruijn64tab"], apart := false, laid := [("math/bits.deBruijn64tab", laid_math_bits_deBruijn64tab)] }
def ArenaPlaysSaid : Prop := arenaPlaysRow.holds Tryd.pinned (OpenSpec.ofChange arenaPlaysSpec)

/-- ITS FALSE NEIGHBOUR: 'it returns false'. Refute it at one input. -/
def arenaPlaysWrong : ChangeSpec := { name := "arenaPlays", fn := fun _ => fun
  | [d1, d2, d3] => { results := [.lit (.bool false)], args := [d1, d2, d3] }
  | _ => none }
def ArenaPlaysWrongFalsely : Prop := arenaPlaysRow.holds Tryd.pinned (OpenSpec.ofChange arenaPlaysWrong)

/-- 'commonagelaw10.ArenaRoom': WHATEVER THE INPUT: true; the input reads as it did. -/
def arenaRoomSpec : ChangeSpec := { name := "arenaRoom", fn := fun _ => fun
  | [d1, d2, d3] => { results := [.lit (.bool true)], args := [d1, d2, d3] }
  | _ => none }
def arenaRoomRow : OpenClaim := { program := "ytlhajoamebfniaadoor", sum := "c2eea65a2b4ae3afd3b293625a6467ae69732e501ae9100731518444e3ae8411", func := "commonage/commonagelaw10.ArenaRoom", spec := "arenaRoom", unfollowed := true, recurses := true, named := ["math/bits.deBruijn64tab"], apart := false, laid := [("math/bits.deBruijn64tab", laid_math_bits_deBruijn64tab)] }
def ArenaRoomSaid : Prop := arenaRoomRow.holds Tryd.pinned (OpenSpec.ofChange arenaRoomSpec)

/-- ITS FALSE NEIGHBOUR: 'it returns false'. Refute it at one input. -/
def arenaRoomWrong : ChangeSpec := { name := "arenaRoom", fn := fun _ => fun
  | [d1, d2, d3] => { results := [.lit (.bool false)], args := [d1, d2, d3] }
  | _ => none }
def ArenaRoomWrongFalsely : Prop := arenaRoomRow.holds Tryd.pinned (OpenSpec.ofChange arenaRoomWrong)

/-- 'commonagelaw10.ArenaLowest': WHATEVER THE INPUT: true; the input reads as it did. -/
def arenaLowestSpec : ChangeSpec := { name := "arenaLowest", fn := fun _ => fun
  | [d1, d2, d3] => { results := [.lit (.bool true)], args := [d1, d2, d3] }
  | _ => none }
def arenaLowestRow : OpenClaim := { program := "ytlhajoamebfniaadoor", sum := "c2eea65a2b4ae3afd3b293625a6467ae69732e501ae9100731518444e3ae8411", func := "commonage/commonagelaw10.ArenaLowest", spec := "arenaLowest", unfollowed := true, recurses := true, named := ["math/bits.deBruijn64tab"], apart := false, laid := [("math/bits.deBruijn64tab", laid_math_bits_deBruijn64tab)] }
def ArenaLowestSaid : Prop := arenaLowestRow.holds Tryd.pinned (OpenSpec.ofChange arenaLowestSpec)

/-- ITS FALSE NEIGHBOUR: 'it returns false'. Refute it at one input. -/
def arenaLowestWrong : ChangeSpec := { name := "arenaLowest", fn := fun _ => fun
  | [d1, d2, d3] => { results := [.lit (.bool false)], args := [d1, d2, d3] }
  | _ => none }
def ArenaLowestWrongFalsely : Prop := arenaLowestRow.holds Tryd.pinned (OpenSpec.ofChange arenaLowestWrong)

/-- 'commonagelaw10.ArenaEach': WHATEVER THE INPUT: true; the input reads as it did. -/
def arenaEachSpec : ChangeSpec := { name := "arenaEach", fn := fun _ => fun
  | [d1, d2, d3] => { results := [.lit (.bool true)], args := [d1, d2, d3] }
  | _ => none }
def arenaEachRow : OpenClaim := { program := "ytlhajoamebfniaadoor", sum := "c2eea65a2b4ae3afd3b293625a6467ae69732e501ae9100731518444e3ae8411", func := "commonage/commonagelaw10.ArenaEach", spec := "arenaEach", unfollowed := true, recurses := true, named := ["math/bits.deBruijn64tab"], apart := false, laid := [("math/bits.deBruijn64tab", laid_math_bits_deBruijn64tab)] }
def ArenaEachSaid : Prop := arenaEachRow.holds Tryd.pinned (OpenSpec.ofChange arenaEachSpec)

/-- ITS FALSE NEIGHBOUR: 'it returns false'. Refute it at one input. -/
def arenaEachWrong : ChangeSpec := { name := "arenaEach", fn := fun _ => fun
  | [d1, d2, d3] => { results := [.lit (.bool false)], args := [d1, d2, d3] }
  | _ => none }
def ArenaEachWrongFalsely : Prop := arenaEachRow.holds Tryd.pinned (OpenSpec.ofChange arenaEachWrong)

/-- 'commonagelaw17.GreyPlays': WHATEVER THE INPUT: true; the input reads as it did. -/
def greyPlaysSpec : ChangeSpec := { name := "greyPlays", fn := fun _ => fun
  | [d1, d2, d3] => { results := [.lit (.bool true)], args := [d1, d2, d3] }
  | _ => none }
def greyPlaysRow : OpenClaim := { program := "ytlhajoamebfniaadoor", sum := "c2eea65a2b4ae3afd3b293625a6467ae69732e501ae9100731518444e3ae8411", func := "commonage/commonagelaw17.GreyPlays", spec := "greyPlays", unfollowed := true, recurses := true, named := ["math/bits.deBruijn64tab"], apart := false, laid := [("math/bits.deBruijn64tab", laid_math_bits_deBruijn64tab)] }
def GreyPlaysSaid : Prop := greyPlaysRow.holds Tryd.pinned (OpenSpec.ofChange greyPlaysSpec)

/-- ITS FALSE NEIGHBOUR: 'it returns false'. Refute it at one input. -/
def greyPlaysWrong : ChangeSpec := { name := "greyPlays", fn := fun _ => fun
  | [d1, d2, d3] => { results := [.lit (.bool false)], args := [d1, d2, d3] }
  | _ => none }
def GreyPlaysWrongFalsely : Prop := greyPlaysRow.holds Tryd.pinned (OpenSpec.ofChange greyPlaysWrong)

/-- 'commonagelaw17.GreyQueue': WHATEVER THE INPUT: true; the input reads as it did. -/
def greyQueueSpec : ChangeSpec := { name := "greyQueue", fn := fun _ => fun
  | [d1, d2, d3] => { results := [.lit (.bool true)], args := [d1, d2, d3] }
  | _ => none }
def greyQueueRow : OpenClaim := { program := "ytlhajoamebfniaadoor", sum := "c2eea65a2b4ae3afd3b293625a6467ae69732e501ae9100731518444e3ae8411", func := "commonage/commonagelaw17.GreyQueue", spec := "greyQueue", unfollowed := true, recurses := true, named := ["math/bits.deBruijn64tab"], apart := false, laid := [("math/bits.deBruijn64tab", laid_math_bits_deBruijn64tab)] }
def GreyQueueSaid : Prop := greyQueueRow.holds Tryd.pinned (OpenSpec.ofChange greyQueueSpec)

/-- ITS FALSE NEIGHBOUR: 'it returns false'. Refute it at one input. -/
def greyQueueWrong : ChangeSpec := { name := "greyQueue", fn := fun _ => fun
  | [d1, d2, d3] => { results := [.lit (.bool false)], args := [d1, d2, d3] }
  | _ => none }
def GreyQueueWrongFalsely : Prop := greyQueueRow.holds Tryd.pinned (OpenSpec.ofChange greyQueueWrong)

/-- 'commonagelaw10.ArenaApart': WHATEVER THE INPUT: true; the input reads as it did. -/
def arenaApartSpec : ChangeSpec := { name := "arenaApart", fn := fun _ => fun
  | [d1, d2, d3] => { results := [.lit (.bool true)], args := [d1, d2, d3] }
  | _ => none }
def arenaApartRow : OpenClaim := { program := "ytlhajoamebfniaadoor", sum := "c2eea65a2b4ae3afd3b293625a6467ae69732e501ae9100731518444e3ae8411", func := "commonage/commonagelaw10.ArenaApart", spec := "arenaApart", unfollowed := true, recurses := true, named := ["math/bits.deBruijn64tab"], apart := false, laid := [("math/bits.deBruijn64tab", laid_math_bits_deBruijn64tab)] }
def ArenaApartSaid : Prop := arenaApartRow.holds Tryd.pinned (OpenSpec.ofChange arenaApartSpec)

/-- ITS FALSE NEIGHBOUR: 'it returns false'. Refute it at one input. -/
def arenaApartWrong : ChangeSpec := { name := "arenaApart", fn := fun _ => fun
  | [d1, d2, d3] => { results := [.lit (.bool false)], args := [d1, d2, d3] }
  | _ => none }
def ArenaApartWrongFalsely : Prop := arenaApartRow.holds Tryd.pinned (OpenSpec.ofChange arenaApartWrong)

/- THE SECOND FORM. 'bulk': how many values and letters a reading holds, each counted each time it is reached (what is shared counts as often as it is met; a slice's spare places count too). A statement '..UptoSaid' is the law's where the arguments, and the package variables that the reading takes, are together of bulk at most 1048576: NARROWER than '..Said'. Prove '..Said' where nothing that the law and all that it calls make is longer than what came in: it says more and counts as full. Else prove '..UptoSaid'. A law counts once. -/
mutual
def uptoBulk {H : Type} : DataW H → Nat
  | .lit (.string bytes) => bytes.length + 1
  | .lit _ => 1
  | .nil => 1
  | .ptr d => uptoBulk d + 1
  | .slice elems spare => uptoBulkAll elems + uptoBulkAll spare + 1
  | .agg parts => uptoBulkAll parts + 1
  | .iface _ d => uptoBulk d + 1
  | .map entries => uptoBulkEntries entries + 1
  | .held _ => 1
def uptoBulkAll {H : Type} : List (DataW H) → Nat
  | [] => 0
  | d :: r => uptoBulk d + uptoBulkAll r
def uptoBulkEntries {H : Type} : List (Lit × DataW H) → Nat
  | [] => 0
  | x :: r => uptoBulkEntry x + uptoBulkEntries r
def uptoBulkEntry {H : Type} : Lit × DataW H → Nat
  | (.string bytes, d) => bytes.length + uptoBulk d + 1
  | (_, d) => uptoBulk d + 1
 end
def uptoSmall : (H : Type) → List (DataW H) → Bool := fun _ ds => decide (uptoBulkAll ds ≤ 1048576)
def OpenSpec.upto (s : _root_.Go.ChangeSpec) : _root_.Go.OpenSpec := { _root_.Go.OpenSpec.ofChange s with cond := some uptoSmall }

/-- 'commonagelaw17.GreyAll', WHERE WHAT IT READS IS OF BULK AT MOST 1048576: true; the input reads as it did. -/
def greyAllUptoRow : OpenClaim := { program := "ytlhajoamebfniaadoor", sum := "c2eea65a2b4ae3afd3b293625a6467ae69732e501ae9100731518444e3ae8411", func := "commonage/commonagelaw17.GreyAll", spec := "greyAll", unfollowed := true, recurses := true, named := ["math/bits.deBruijn64tab"], apart := false, laid := [("math/bits.deBruijn64tab", laid_math_bits_deBruijn64tab)], narrowed := true }
def GreyAllUptoSaid : Prop := greyAllUptoRow.holds Tryd.pinned (OpenSpec.upto greyAllSpec)

/-- 'commonagelaw10.ArenaPlays', WHERE WHAT IT READS IS OF BULK AT MOST 1048576: true; the input reads as it did. -/
def arenaPlaysUptoRow : OpenClaim := { program := "ytlhajoamebfniaadoor", sum := "c2eea65a2b4ae3afd3b293625a6467ae69732e501ae9100731518444e3ae8411", func := "commonage/commonagelaw10.ArenaPlays", spec := "arenaPlays", unfollowed := true, recurses := true, named := ["math/bits.deBruijn64tab"], apart := false, laid := [("math/bits.deBruijn64tab", laid_math_bits_deBruijn64tab)], narrowed := true }
def ArenaPlaysUptoSaid : Prop := arenaPlaysUptoRow.holds Tryd.pinned (OpenSpec.upto arenaPlaysSpec)

/-- 'commonagelaw10.ArenaRoom', WHERE WHAT IT READS IS OF BULK AT MOST 1048576: true; the input reads as it did. -/
def arenaRoomUptoRow : OpenClaim := { program := "ytlhajoamebfniaadoor", sum := "c2eea65a2b4ae3afd3b293625a6467ae69732e501ae9100731518444e3ae8411", func := "commonage/commonagelaw10.ArenaRoom", spec := "arenaRoom", unfollowed := true, recurses := true, named := ["math/bits.deBruijn64tab"], apart := false, laid := [("math/bits.deBruijn64tab", laid_math_bits_deBruijn64tab)], narrowed := true }
def ArenaRoomUptoSaid : Prop := arenaRoomUptoRow.holds Tryd.pinned (OpenSpec.upto arenaRoomSpec)

/-- 'commonagelaw10.ArenaLowest', WHERE WHAT IT READS IS OF BULK AT MOST 1048576: true; the input reads as it did. -/
def arenaLowestUptoRow : OpenClaim := { program := "ytlhajoamebfniaadoor", sum := "c2eea65a2b4ae3afd3b293625a6467ae69732e501ae9100731518444e3ae8411", func := "commonage/commonagelaw10.ArenaLowest", spec := "arenaLowest", unfollowed := true, recurses := true, named := ["math/bits.deBruijn64tab"], apart := false, laid := [("math/bits.deBruijn64tab", laid_math_bits_deBruijn64tab)], narrowed := true }
def ArenaLowestUptoSaid : Prop := arenaLowestUptoRow.holds Tryd.pinned (OpenSpec.upto arenaLowestSpec)

/-- 'commonagelaw10.ArenaEach', WHERE WHAT IT READS IS OF BULK AT MOST 1048576: true; the input reads as it did. -/
def arenaEachUptoRow : OpenClaim := { program := "ytlhajoamebfniaadoor", sum := "c2eea65a2b4ae3afd3b293625a6467ae69732e501ae9100731518444e3ae8411", func := "commonage/commonagelaw10.ArenaEach", spec := "arenaEach", unfollowed := true, recurses := true, named := ["math/bits.deBruijn64tab"], apart := false, laid := [("math/bits.deBruijn64tab", laid_math_bits_deBruijn64tab)], narrowed := true }
def ArenaEachUptoSaid : Prop := arenaEachUptoRow.holds Tryd.pinned (OpenSpec.upto arenaEachSpec)

/-- 'commonagelaw17.GreyPlays', WHERE WHAT IT READS IS OF BULK AT MOST 1048576: true; the input reads as it did. -/
def greyPlaysUptoRow : OpenClaim := { program := "ytlhajoamebfniaadoor", sum := "c2eea65a2b4ae3afd3b293625a6467ae69732e501ae9100731518444e3ae8411", func := "commonage/commonagelaw17.GreyPlays", spec := "greyPlays", unfollowed := true, recurses := true, named := ["math/bits.deBruijn64tab"], apart := false, laid := [("math/bits.deBruijn64tab", laid_math_bits_deBruijn64tab)], narrowed := true }
def GreyPlaysUptoSaid : Prop := greyPlaysUptoRow.holds Tryd.pinned (OpenSpec.upto greyPlaysSpec)

/-- 'commonagelaw17.GreyQueue', WHERE WHAT IT READS IS OF BULK AT MOST 1048576: true; the input reads as it did. -/
def greyQueueUptoRow : OpenClaim := { program := "ytlhajoamebfniaadoor", sum := "c2eea65a2b4ae3afd3b293625a6467ae69732e501ae9100731518444e3ae8411", func := "commonage/commonagelaw17.GreyQueue", spec := "greyQueue", unfollowed := true, recurses := true, named := ["math/bits.deBruijn64tab"], apart := false, laid := [("math/bits.deBruijn64tab", laid_math_bits_deBruijn64tab)], narrowed := true }
def GreyQueueUptoSaid : Prop := greyQueueUptoRow.holds Tryd.pinned (OpenSpec.upto greyQueueSpec)

/-- 'commonagelaw10.ArenaApart', WHERE WHAT IT READS IS OF BULK AT MOST 1048576: true; the input reads as it did. -/
def arenaApartUptoRow : OpenClaim := { program := "ytlhajoamebfniaadoor", sum := "c2eea65a2b4ae3afd3b293625a6467ae69732e501ae9100731518444e3ae8411", func := "commonage/commonagelaw10.ArenaApart", spec := "arenaApart", unfollowed := true, recurses := true, named := ["math/bits.deBruijn64tab"], apart := false, laid := [("math/bits.deBruijn64tab", laid_math_bits_deBruijn64tab)], narrowed := true }
def ArenaApartUptoSaid : Prop := arenaApartUptoRow.holds Tryd.pinned (OpenSpec.upto arenaApartSpec)

end Rows
end Go.Proofs.YtlhajoamebfniaaDoor
