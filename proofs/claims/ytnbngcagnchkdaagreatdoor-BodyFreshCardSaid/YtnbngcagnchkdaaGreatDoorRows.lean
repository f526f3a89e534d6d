/-
  NARROWER THAN 'FOR EVERY INPUT', by the rows' own cells (each row's printed sentence says how): BodyEach: laid · BodyPlays: laid · BodyReads: laid · BodyFresh: laid · BodyGone: laid.
  DERIVED. THE GIVEN ROWS OF THIS SEAT. 5 by the template 'for every input the law returns true; each argument reads behind the call as it read before'; 0 by the template 'total and deterministic' (their statements: YtnbngcagnchkdaaGreatDoorTotals.lean).
  GIVEN WITH THE SEED: the statements are not yours to turn. If you find one false, say at which input.
  Laid BY PROGRAM, IN A SANDBOX (cutbox-rows.mjs): the forced cells as the released guide's own fill.sh prints them over the translation 88c1ee419f5694df… (all of the seat's roots in one cut). By AI agents, Wed Nov 11 2026. No macro, syntax, notation, axiom, sorry.
-/
import Derived.Test.YtnbngcagnchkdaaGreatDoorChecked
import GoSem.Claim
import GoSem.ClaimJoined
import GoSem.ClaimMapViews
import Derived.JoinedTies
import Derived.KernelRfl
namespace Go.Proofs.YtnbngcagnchkdaaGreatDoor
/- THE CELL 'sum', in the pinned program and in every row, IS THE sha256 OF THE DUMP (.gsa) THAT YtnbngcagnchkdaaGreatDoorProg.lean LOADS. Nothing in Lean hashes anything: it is a label: what it is worth is what the hold of that sum in a sandbox is worth. -/
noncomputable def Tryz.pinned : Pinned := { name := "ytnbngcagnchkdaagreatdoor", sum := "88c1ee419f5694df83d4001a04a65c9ad22e4802bc3e5181d01dd70f4c979e9a", checked := Tryz.checked }
namespace Rows
def none {H : Type} : Left H := { results := [], args := [] }

/- WHAT THE LISTED PACKAGE-LEVEL VARIABLES READ AS WHEN THE CALL BEGINS. Each datum BY PROGRAM (the guide's laid-datum.mjs) off the statement by which the dump's own 'gosem.cut.vars' lays the variable. In a bare row this is a premise. The card (YtnbngcagnchkdaaGreatDoorCards.lean) ties it to the program's text. -/
def laid_commonage_head_widths {H : Type} : DataW H := .agg [.lit (.int .i64 16), .lit (.int .i64 16), .lit (.int .i64 16), .lit (.int .i64 8), .lit (.int .i64 8)]

/-- 'commonagelaw11.BodyEach': WHATEVER THE INPUT: true; the input reads as it did. -/
def bodyEachSpec : ChangeSpec := { name := "bodyEach", fn := fun _ => fun
  | [d1, d2, d3] => { results := [.lit (.bool true)], args := [d1, d2, d3] }
  | _ => none }
def bodyEachRow : OpenClaim := { program := "ytnbngcagnchkdaagreatdoor", sum := "88c1ee419f5694df83d4001a04a65c9ad22e4802bc3e5181d01dd70f4c979e9a", func := "commonage/commonagelaw11.BodyEach", spec := "bodyEach", unfollowed := true, recurses := true, named := ["commonage/head.widths"], apart := false, laid := [("commonage/head.widths", laid_commonage_head_widths)] }
def BodyEachSaid : Prop := bodyEachRow.holds Tryz.pinned (OpenSpec.ofChange bodyEachSpec)

/-- ITS FALSE NEIGHBOUR: 'it returns false'. Refute it at one input. -/
def bodyEachWrong : ChangeSpec := { name := "bodyEach", fn := fun _ => fun
  | [d1, d2, d3] => { results := [.lit (.bool false)], args := [d1, d2, d3] }
  | _ => none }
def BodyEachWrongFalsely : Prop := bodyEachRow.holds Tryz.pinned (OpenSpec.ofChange bodyEachWrong)

/-- 'commonagelaw11.BodyPlays': WHATEVER THE INPUT: true; the input reads as it did. -/
def bodyPlaysSpec : ChangeSpec := { name := "bodyPlays", fn := fun _ => fun
  | [d1, d2, d3] => { results := [.lit (.bool true)], args := [d1, d2, d3] }
  | _ => none }
def bodyPlaysRow : OpenClaim := { program := "ytnbngcagnchkdaagreatdoor", sum := "88c1ee419f5694df83d4001a04a65c9ad22e4802bc3e5181d01dd70f4c979e9a", func := "commonage/commonagelaw11.BodyPlays", spec := "bodyPlays", unfollowed := true, recurses := true, named := ["commonage/head.widths"], apart := false, laid := [("commonage/head.widths", laid_commonage_head_widths)] }
def BodyPlaysSaid : Prop := bodyPlaysRow.holds Tryz.pinned (OpenSpec.ofChange bodyPlaysSpec)

/-- ITS FALSE NEIGHBOUR: 'it returns false'. Refute it at one input. -/
def bodyPlaysWrong : ChangeSpec := { name := "bodyPlays", fn := fun _ => fun
  | [d1, d2, d3] => { results := [.lit (.bool false)], args := [d1, d2, d3] }
  | _ => none }
def BodyPlaysWrongFalsely : Prop := bodyPlaysRow.holds Tryz.pinned (OpenSpec.ofChange bodyPlaysWrong)

/-- 'commonagelaw11.BodyReads': WHATEVER THE INPUT: true; the input reads as it did. -/
def bodyReadsSpec : ChangeSpec := { name := "bodyReads", fn := fun _ => fun
  | [d1, d2, d3] => { results := [.lit (.bool true)], args := [d1, d2, d3] }
  | _ => none }
def bodyReadsRow : OpenClaim := { program := "ytnbngcagnchkdaagreatdoor", sum := "88c1ee419f5694df83d4001a04a65c9ad22e4802bc3e5181d01dd70f4c979e9a", func := "commonage/commonagelaw11.BodyReads", spec := "bodyReads", unfollowed := true, recurses := true, named := ["commonage/head.widths"], apart := false, laid := [("commonage/head.widths", laid_commonage_head_widths)] }
def BodyReadsSaid : Prop := bodyReadsRow.holds Tryz.pinned (OpenSpec.ofChange bodyReadsSpec)

/-- ITS FALSE NEIGHBOUR: 'it returns false'. Refute it at one input. -/
def bodyReadsWrong : ChangeSpec := { name := "bodyReads", fn := fun _ => fun
  | [d1, d2, d3] => { results := [.lit (.bool false)], args := [d1, d2, d3] }
  | _ => none }
def BodyReadsWrongFalsely : Prop := bodyReadsRow.holds Tryz.pinned (OpenSpec.ofChange bodyReadsWrong)

/-- 'commonagelaw11.BodyFresh': WHATEVER THE INPUT: true; the input reads as it did. -/
def bodyFreshSpec : ChangeSpec := { name := "bodyFresh", fn := fun _ => fun
  | [d1, d2, d3] => { results := [.lit (.bool true)], args := [d1, d2, d3] }
  | _ => none }
def bodyFreshRow : OpenClaim := { program := "ytnbngcagnchkdaagreatdoor", sum := "88c1ee419f5694df83d4001a04a65c9ad22e4802bc3e5181d01dd70f4c979e9a", func := "commonage/commonagelaw11.BodyFresh", spec := "bodyFresh", unfollowed := true, recurses := true, named := ["commonage/head.widths"], apart := false, laid := [("commonage/head.widths", laid_commonage_head_widths)] }
def BodyFreshSaid : Prop := bodyFreshRow.holds Tryz.pinned (OpenSpec.ofChange bodyFreshSpec)

/-- ITS FALSE NEIGHBOUR: 'it returns false'. Refute it at one input. -/
def bodyFreshWrong : ChangeSpec := { name := "bodyFresh", fn := fun _ => fun
  | [d1, d2, d3] => { results := [.lit (.bool false)], args := [d1, d2, d3] }
  | _ => none }
def BodyFreshWrongFalsely : Prop := bodyFreshRow.holds Tryz.pinned (OpenSpec.ofChange bodyFreshWrong)

/-- 'commonagelaw11.BodyGone': WHATEVER THE INPUT: true; the input reads as it did. -/
def bodyGoneSpec : ChangeSpec := { name := "bodyGone", fn := fun _ => fun
  | [d1, d2, d3] => { results := [.lit (.bool true)], args := [d1, d2, d3] }
  | _ => none }
def bodyGoneRow : OpenClaim := { program := "ytnbngcagnchkdaagreatdoor", sum := "88c1ee419f5694df83d4001a04a65c9ad22e4802bc3e5181d01dd70f4c979e9a", func := "commonage/commonagelaw11.BodyGone", spec := "bodyGone", unfollowed := true, recurses := true, named := ["commonage/head.widths"], apart := false, laid := [("commonage/head.widths", laid_commonage_head_widths)] }
def BodyGoneSaid : Prop := bodyGoneRow.holds Tryz.pinned (OpenSpec.ofChange bodyGoneSpec)

/-- ITS FALSE NEIGHBOUR: 'it returns false'. Refute it at one input. -/
def bodyGoneWrong : ChangeSpec := { name := "bodyGone", fn := fun _ => fun
  | [d1, d2, d3] => { results := [.lit (.bool false)], args := [d1, d2, d3] }
  | _ => none }
def BodyGoneWrongFalsely : Prop := bodyGoneRow.holds Tryz.pinned (OpenSpec.ofChange bodyGoneWrong)

/- THE SECOND FORM. 'bulk': how many values and letters a reading holds, each counted each time it is reached (what is shared counts as often as it is met; a slice's spare places count too). A statement '..UptoSaid' is the law's where the arguments, and the package variables that the reading takes, are together of bulk at most 1048576: NARROWER than '..Said'. Prove '..Said' where nothing that the law and all that it calls make is longer than what came in: it says more and counts as full. Else prove '..UptoSaid'. A law counts once. -/
mutual
def uptoBulk {H : Type} : DataW H → Nat
  | .lit (.string bytes) => bytes.length + 1
  | .lit _ => 1
  | .nil => 1
  | .ptr d => uptoBulk d + 1
  | .slice elems spare => uptoBulkAll elems + uptoBulkAll spare + 1
  | .agg parts => uptoBulkAll parts + 1
  | .iface _ d => uptoBulk d + 1
  | .map entries => uptoBulkEntries entries + 1
  | .held _ => 1
def uptoBulkAll {H : Type} : List (DataW H) → Nat
  | [] => 0
  | d :: r => uptoBulk d + uptoBulkAll r
def uptoBulkEntries {H : Type} : List (Lit × DataW H) → Nat
  | [] => 0
  | x :: r => uptoBulkEntry x + uptoBulkEntries r
def uptoBulkEntry {H : Type} : Lit × DataW H → Nat
  | (.string bytes, d) => bytes.length + uptoBulk d + 1
  | (_, d) => uptoBulk d + 1
 end
def uptoSmall : (H : Type) → List (DataW H) → Bool := fun _ ds => decide (uptoBulkAll ds ≤ 1048576)
def OpenSpec.upto (s : _root_.Go.ChangeSpec) : _root_.Go.OpenSpec := { _root_.Go.OpenSpec.ofChange s with cond := some uptoSmall }

/-- 'commonagelaw11.BodyEach', WHERE WHAT IT READS IS OF BULK AT MOST 1048576: true; the input reads as it did. -/
def bodyEachUptoRow : OpenClaim := { program := "ytnbngcagnchkdaagreatdoor", sum := "88c1ee419f5694df83d4001a04a65c9ad22e4802bc3e5181d01dd70f4c979e9a", func := "commonage/commonagelaw11.BodyEach", spec := "bodyEach", unfollowed := true, recurses := true, named := ["commonage/head.widths"], apart := false, laid := [("commonage/head.widths", laid_commonage_head_widths)], narrowed := true }
def BodyEachUptoSaid : Prop := bodyEachUptoRow.holds Tryz.pinned (OpenSpec.upto bodyEachSpec)

/-- 'commonagelaw11.BodyPlays', WHERE WHAT IT READS IS OF BULK AT MOST 1048576: true; the input reads as it did. -/
def bodyPlaysUptoRow : OpenClaim := { program := "ytnbngcagnchkdaagreatdoor", sum := "88c1ee419f5694df83d4001a04a65c9ad22e4802bc3e5181d01dd70f4c979e9a", func := "commonage/commonagelaw11.BodyPlays", spec := "bodyPlays", unfollowed := true, recurses := true, named := ["commonage/head.widths"], apart := false, laid := [("commonage/head.widths", laid_commonage_head_widths)], narrowed := true }
def BodyPlaysUptoSaid : Prop := bodyPlaysUptoRow.holds Tryz.pinned (OpenSpec.upto bodyPlaysSpec)

/-- 'commonagelaw11.BodyReads', WHERE WHAT IT READS IS OF BULK AT MOST 1048576: true; the input reads as it did. -/
def bodyReadsUptoRow : OpenClaim := { program := "ytnbngcagnchkdaagreatdoor", sum := "88c1ee419f5694df83d4001a04a65c9ad22e4802bc3e5181d01dd70f4c979e9a", func := "commonage/commonagelaw11.BodyReads", spec := "bodyReads", unfollowed := true, recurses := true, named := ["commonage/head.widths"], apart := false, laid := [("commonage/head.widths", laid_commonage_head_widths)], narrowed := true }
def BodyReadsUptoSaid : Prop := bodyReadsUptoRow.holds Tryz.pinned (OpenSpec.upto bodyReadsSpec)

/-- 'commonagelaw11.BodyFresh', WHERE WHAT IT READS IS OF BULK AT MOST 1048576: true; the input reads as it did. -/
def bodyFreshUptoRow : OpenClaim := { program := "ytnbngcagnchkdaagreatdoor", sum := "88c1ee419f5694df83d4001a04a65c9ad22e4802bc3e5181d01dd70f4c979e9a", func := "commonage/commonagelaw11.BodyFresh", spec := "bodyFresh", unfollowed := true, recurses := true, named := ["commonage/head.widths"], apart := false, laid := [("commonage/head.widths", laid_commonage_head_widths)], narrowed := true }
def BodyFreshUptoSaid : Prop := bodyFreshUptoRow.holds Tryz.pinned (OpenSpec.upto bodyFreshSpec)

/-- 'commonagelaw11.BodyGone', WHERE WHAT IT READS IS OF BULK AT MOST 1048576: true; the input reads as it did. -/
def bodyGoneUptoRow : OpenClaim := { program := "ytnbngcagnchkdaagreatdoor", sum := "88c1ee419f5694df83d4001a04a65c9ad22e4802bc3e5181d01dd70f4c979e9a", func := "commonage/commonagelaw11.BodyGone", spec := "bodyGone", unfollowed := true, recurses := true, named := ["commonage/head.widths"], apart := false, laid := [("commonage/head.widths", laid_commonage_head_widths)], narrowed := true }
def BodyGoneUptoSaid : Prop := bodyGoneUptoRow.holds Tryz.pinned (OpenSpec.upto bodyGoneSpec)

end Rows
end Go.Proofs.YtnbngcagnchkdaaGreatDoor
