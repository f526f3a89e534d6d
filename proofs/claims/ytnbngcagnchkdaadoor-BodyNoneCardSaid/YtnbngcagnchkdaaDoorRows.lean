/-
  NARROWER THAN 'FOR EVERY INPUT', by the rows' own cells (each row's printed sentence says how): BodyNone: laid.
  DERIVED. THE GIVEN ROWS OF THIS SEAT. 1 by the template 'for every input the law returns true; each argument reads behind the call as it read before'; 0 by the template 'total and deterministic' (their statements: YtnbngcagnchkdaaDoorTotals.lean).
  GIVEN WITH THE SEED: the statements are not yours to turn. If you find one false, say at which input.
  Laid BY PROGRAM, IN A SANDBOX (cutbox-rows.mjs): the forced cells as the released guide's own fill.sh prints them over the translation aa0d42f2cb65a0c3… (all of the seat's roots in one cut). By AI agents, Wed Nov 11 2026. No macro, syntax, notation, axiom, sorry.
-/
import Derived.Test.YtnbngcagnchkdaaDoorChecked
import GoSem.Claim
import GoSem.ClaimJoined
import GoSem.ClaimMapViews
import Derived.JoinedTies
import Derived.KernelRfl
namespace Go.Proofs.YtnbngcagnchkdaaDoor
/- THE CELL 'sum', in the pinned program and in every row, IS THE sha256 OF THE DUMP (.gsa) THAT YtnbngcagnchkdaaDoorProg.lean LOADS. Nothing in Lean hashes anything: it is a label: what it is worth is what the hold of that sum in a sandbox is worth. -/
noncomputable def Tryd.pinned : Pinned := { name := "ytnbngcagnchkdaadoor", sum := "aa0d42f2cb65a0c3657d47e5ac8ef80b03efd27dac9814d337a1e30267893726", checked := Tryd.checked }
namespace Rows
def none {H : Type} : Left H := { results := [], args := [] }

/- WHAT THE LISTED PACKAGE-LEVEL VARIABLES READ AS WHEN THE CALL BEGINS. Each datum BY PROGRAM (the guide's laid-datum.mjs) off the statement by which the dump's own 'gosem.cut.vars' lays the variable. In a bare row this is a premise. The card (YtnbngcagnchkdaaDoorCards.lean) ties it to the program's text. -/
def laid_commonage_head_widths {H : Type} : DataW H := .agg [.lit (.int .i64 16), .lit (.int .i64 16), .lit (.int .i64 16), .lit (.int .i64 8), .lit (.int .i64 8)]

/-- 'commonagelaw11.BodyNone': WHATEVER THE INPUT: true; the input reads as it did. -/
def bodyNoneSpec : ChangeSpec := { name := "bodyNone", fn := fun _ => fun
  | [d1, d2] => { results := [.lit (.bool true)], args := [d1, d2] }
  | _ => none }
def bodyNoneRow : OpenClaim := { program := "ytnbngcagnchkdaadoor", sum := "aa0d42f2cb65a0c3657d47e5ac8ef80b03efd27dac9814d337a1e30267893726", func := "commonage/commonagelaw11.BodyNone", spec := "bodyNone", unfollowed := true, recurses := true, named := ["commonage/head.widths"], apart := false, laid := [("commonage/head.widths", laid_commonage_head_widths)] }
def BodyNoneSaid : Prop := bodyNoneRow.holds Tryd.pinned (OpenSpec.ofChange bodyNoneSpec)

/-- ITS FALSE NEIGHBOUR: 'it returns false'. Refute it at one input. -/
def bodyNoneWrong : ChangeSpec := { name := "bodyNone", fn := fun _ => fun
  | [d1, d2] => { results := [.lit (.bool false)], args := [d1, d2] }
  | _ => none }
def BodyNoneWrongFalsely : Prop := bodyNoneRow.holds Tryd.pinned (OpenSpec.ofChange bodyNoneWrong)

/- THE SECOND FORM. 'bulk': how many values and letters a reading holds, each counted each time it is reached (what is shared counts as often as it is met; a slice's spare places count too). A statement '..UptoSaid' is the law's where the arguments, and the package variables that the reading takes, are together of bulk at most 1048576: NARROWER than '..Said'. Prove '..Said' where nothing that the law and all that it calls make is longer than what came in: it says more and counts as full. Else prove '..UptoSaid'. A law counts once. -/
mutual
def uptoBulk {H : Type} : DataW H → Nat
  | .lit (.string bytes) => bytes.length + 1
  | .lit _ => 1
  | .nil => 1
  | .ptr d => uptoBulk d + 1
  | .slice elems spare => uptoBulkAll elems + uptoBulkAll spare + 1
  | .agg parts => uptoBulkAll parts + 1
  | .iface _ d => uptoBulk d + 1
  | .map entries => uptoBulkEntries entries + 1
  | .held _ => 1
def uptoBulkAll {H : Type} : List (DataW H) → Nat
  | [] => 0
  | d :: r => uptoBulk d + uptoBulkAll r
def uptoBulkEntries {H : Type} : List (Lit × DataW H) → Nat
  | [] => 0
  | x :: r => uptoBulkEntry x + uptoBulkEntries r
def uptoBulkEntry {H : Type} : Lit × DataW H → Nat
  | (.string bytes, d) => bytes.length + uptoBulk d + 1
  | (_, d) => uptoBulk d + 1
 end
def uptoSmall : (H : Type) → List (DataW H) → Bool := fun _ ds => decide (uptoBulkAll ds ≤ 1048576)
def OpenSpec.upto (s : _root_.Go.ChangeSpec) : _root_.Go.OpenSpec := { _root_.Go.OpenSpec.ofChange s with cond := some uptoSmall }

/-- 'commonagelaw11.BodyNone', WHERE WHAT IT READS IS OF BULK AT MOST 1048576: true; the input reads as it did. -/
def bodyNoneUptoRow : OpenClaim := { program := "ytnbngcagnchkdaadoor", sum := "aa0d42f2cb65a0c3657d47e5ac8ef80b03efd27dac9814d337a1e30267893726", func := "commonage/commonagelaw11.BodyNone", spec := "bodyNone", unfollowed := true, recurses := true, named := ["commonage/head.widths"], apart := false, laid := [("commonage/head.widths", laid_commonage_head_widths)], narrowed := true }
def BodyNoneUptoSaid : Prop := bodyNoneUptoRow.holds Tryd.pinned (OpenSpec.upto bodyNoneSpec)

end Rows
end Go.Proofs.YtnbngcagnchkdaaDoor
