/-
  No cell of these rows narrows 'for every input' (looked for: loops, veiled, ifaces, maps, wideKeys, modest, calm, conditions, laid).
  DERIVED. THE GIVEN ROWS OF THIS SEAT. 8 by the template 'for every input the law returns true; each argument reads behind the call as it read before'; 0 by the template 'total and deterministic' (their statements: YtcnaabkimgkpbaaTotals.lean).
  GIVEN WITH THE SEED: the statements are not yours to turn. If you find one false, say at which input.
  Laid BY PROGRAM, IN A SANDBOX (cutbox-rows.mjs): the forced cells as the released guide's own fill.sh prints them over the translation dde82696e7a42e60… (all of the seat's roots in one cut). By AI agents, Wed Nov 11 2026. No macro, syntax, notation, axiom, sorry.
-/
import Derived.Test.YtcnaabkimgkpbaaChecked
import GoSem.Claim
import GoSem.ClaimJoined
import GoSem.ClaimMapViews
import Derived.JoinedTies
import Derived.KernelRfl
namespace Go.Proofs.Ytcnaabkimgkpbaa
/- THE CELL 'sum', in the pinned program and in every row, IS THE sha256 OF THE DUMP (.gsa) THAT YtcnaabkimgkpbaaProg.lean LOADS. Nothing in Lean hashes anything: it is a label: what it is worth is what the hold of that sum in a sandbox is worth. -/
noncomputable def Try.pinned : Pinned := { name := "ytcnaabkimgkpbaa", sum := "dde82696e7a42e60c5fd714125f008d3fa4a09403f1f34faf8f143298f7d5976", checked := Try.checked }
namespace Rows
def none {H : Type} : Left H := { results := [], args := [] }

/-- 'commonagelaw05.ClassTells': WHATEVER THE INPUT: true; the input reads as it did. -/
def classTellsSpec : ChangeSpec := { name := "classTells", fn := fun _ => fun
  | [d1, d2] => { results := [.lit (.bool true)], args := [d1, d2] }
  | _ => none }
def classTellsRow : OpenClaim := { program := "ytcnaabkimgkpbaa", sum := "dde82696e7a42e60c5fd714125f008d3fa4a09403f1f34faf8f143298f7d5976", func := "commonage/commonagelaw05.ClassTells", spec := "classTells", unfollowed := true, recurses := true, apart := false }
def ClassTellsSaid : Prop := classTellsRow.holds Try.pinned (OpenSpec.ofChange classTellsSpec)

/-- ITS FALSE NEIGHBOUR: 'it returns false'. Refute it at one input. -/
def classTellsWrong : ChangeSpec := { name := "classTells", fn := fun _ => fun
  | [d1, d2] => { results := [.lit (.bool false)], args := [d1, d2] }
  | _ => none }
def ClassTellsWrongFalsely : Prop := classTellsRow.holds Try.pinned (OpenSpec.ofChange classTellsWrong)

/-- 'commonagelaw05.ClassRounds': WHATEVER THE INPUT: true; the input reads as it did. -/
def classRoundsSpec : ChangeSpec := { name := "classRounds", fn := fun _ => fun
  | [d1, d2, d3] => { results := [.lit (.bool true)], args := [d1, d2, d3] }
  | _ => none }
def classRoundsRow : OpenClaim := { program := "ytcnaabkimgkpbaa", sum := "dde82696e7a42e60c5fd714125f008d3fa4a09403f1f34faf8f143298f7d5976", func := "commonage/commonagelaw05.ClassRounds", spec := "classRounds", unfollowed := true, recurses := true, apart := false }
def ClassRoundsSaid : Prop := classRoundsRow.holds Try.pinned (OpenSpec.ofChange classRoundsSpec)

/-- ITS FALSE NEIGHBOUR: 'it returns false'. Refute it at one input. -/
def classRoundsWrong : ChangeSpec := { name := "classRounds", fn := fun _ => fun
  | [d1, d2, d3] => { results := [.lit (.bool false)], args := [d1, d2, d3] }
  | _ => none }
def ClassRoundsWrongFalsely : Prop := classRoundsRow.holds Try.pinned (OpenSpec.ofChange classRoundsWrong)

/-- 'commonagelaw05.ClassEach': WHATEVER THE INPUT: true; the input reads as it did. -/
def classEachSpec : ChangeSpec := { name := "classEach", fn := fun _ => fun
  | [d] => { results := [.lit (.bool true)], args := [d] }
  | _ => none }
def classEachRow : OpenClaim := { program := "ytcnaabkimgkpbaa", sum := "dde82696e7a42e60c5fd714125f008d3fa4a09403f1f34faf8f143298f7d5976", func := "commonage/commonagelaw05.ClassEach", spec := "classEach", unfollowed := true, recurses := true, apart := false }
def ClassEachSaid : Prop := classEachRow.holds Try.pinned (OpenSpec.ofChange classEachSpec)

/-- ITS FALSE NEIGHBOUR: 'it returns false'. Refute it at one input. -/
def classEachWrong : ChangeSpec := { name := "classEach", fn := fun _ => fun
  | [d] => { results := [.lit (.bool false)], args := [d] }
  | _ => none }
def ClassEachWrongFalsely : Prop := classEachRow.holds Try.pinned (OpenSpec.ofChange classEachWrong)

/-- 'commonagelaw06.ConfCuts': WHATEVER THE INPUT: true; the input reads as it did. -/
def confCutsSpec : ChangeSpec := { name := "confCuts", fn := fun _ => fun
  | [d] => { results := [.lit (.bool true)], args := [d] }
  | _ => none }
def confCutsRow : OpenClaim := { program := "ytcnaabkimgkpbaa", sum := "dde82696e7a42e60c5fd714125f008d3fa4a09403f1f34faf8f143298f7d5976", func := "commonage/commonagelaw06.ConfCuts", spec := "confCuts", unfollowed := true, recurses := true, apart := false }
def ConfCutsSaid : Prop := confCutsRow.holds Try.pinned (OpenSpec.ofChange confCutsSpec)

/-- ITS FALSE NEIGHBOUR: 'it returns false'. Refute it at one input. -/
def confCutsWrong : ChangeSpec := { name := "confCuts", fn := fun _ => fun
  | [d] => { results := [.lit (.bool false)], args := [d] }
  | _ => none }
def ConfCutsWrongFalsely : Prop := confCutsRow.holds Try.pinned (OpenSpec.ofChange confCutsWrong)

/-- 'commonagelaw06.ConfMore': WHATEVER THE INPUT: true; the input reads as it did. -/
def confMoreSpec : ChangeSpec := { name := "confMore", fn := fun _ => fun
  | [d1, d2, d3] => { results := [.lit (.bool true)], args := [d1, d2, d3] }
  | _ => none }
def confMoreRow : OpenClaim := { program := "ytcnaabkimgkpbaa", sum := "dde82696e7a42e60c5fd714125f008d3fa4a09403f1f34faf8f143298f7d5976", func := "commonage/commonagelaw06.ConfMore", spec := "confMore", unfollowed := true, recurses := true, apart := false }
def ConfMoreSaid : Prop := confMoreRow.holds Try.pinned (OpenSpec.ofChange confMoreSpec)

/-- ITS FALSE NEIGHBOUR: 'it returns false'. Refute it at one input. -/
def confMoreWrong : ChangeSpec := { name := "confMore", fn := fun _ => fun
  | [d1, d2, d3] => { results := [.lit (.bool false)], args := [d1, d2, d3] }
  | _ => none }
def ConfMoreWrongFalsely : Prop := confMoreRow.holds Try.pinned (OpenSpec.ofChange confMoreWrong)

/-- 'commonagelaw06.ConfPage': WHATEVER THE INPUT: true; the input reads as it did. -/
def confPageSpec : ChangeSpec := { name := "confPage", fn := fun _ => fun
  | [d1, d2, d3] => { results := [.lit (.bool true)], args := [d1, d2, d3] }
  | _ => none }
def confPageRow : OpenClaim := { program := "ytcnaabkimgkpbaa", sum := "dde82696e7a42e60c5fd714125f008d3fa4a09403f1f34faf8f143298f7d5976", func := "commonage/commonagelaw06.ConfPage", spec := "confPage", unfollowed := true, recurses := true, apart := false }
def ConfPageSaid : Prop := confPageRow.holds Try.pinned (OpenSpec.ofChange confPageSpec)

/-- ITS FALSE NEIGHBOUR: 'it returns false'. Refute it at one input. -/
def confPageWrong : ChangeSpec := { name := "confPage", fn := fun _ => fun
  | [d1, d2, d3] => { results := [.lit (.bool false)], args := [d1, d2, d3] }
  | _ => none }
def ConfPageWrongFalsely : Prop := confPageRow.holds Try.pinned (OpenSpec.ofChange confPageWrong)

/-- 'commonagelaw06.ConfTells': WHATEVER THE INPUT: true; the input reads as it did. -/
def confTellsSpec : ChangeSpec := { name := "confTells", fn := fun _ => fun
  | [d1, d2, d3] => { results := [.lit (.bool true)], args := [d1, d2, d3] }
  | _ => none }
def confTellsRow : OpenClaim := { program := "ytcnaabkimgkpbaa", sum := "dde82696e7a42e60c5fd714125f008d3fa4a09403f1f34faf8f143298f7d5976", func := "commonage/commonagelaw06.ConfTells", spec := "confTells", unfollowed := true, recurses := true, apart := false }
def ConfTellsSaid : Prop := confTellsRow.holds Try.pinned (OpenSpec.ofChange confTellsSpec)

/-- ITS FALSE NEIGHBOUR: 'it returns false'. Refute it at one input. -/
def confTellsWrong : ChangeSpec := { name := "confTells", fn := fun _ => fun
  | [d1, d2, d3] => { results := [.lit (.bool false)], args := [d1, d2, d3] }
  | _ => none }
def ConfTellsWrongFalsely : Prop := confTellsRow.holds Try.pinned (OpenSpec.ofChange confTellsWrong)

/-- 'commonagelaw06.ConfApart': WHATEVER THE INPUT: true; the input reads as it did. -/
def confApartSpec : ChangeSpec := { name := "confApart", fn := fun _ => fun
  | [d1, d2, d3] => { results := [.lit (.bool true)], args := [d1, d2, d3] }
  | _ => none }
def confApartRow : OpenClaim := { program := "ytcnaabkimgkpbaa", sum := "dde82696e7a42e60c5fd714125f008d3fa4a09403f1f34faf8f143298f7d5976", func := "commonage/commonagelaw06.ConfApart", spec := "confApart", unfollowed := true, recurses := true, apart := false }
def ConfApartSaid : Prop := confApartRow.holds Try.pinned (OpenSpec.ofChange confApartSpec)

/-- ITS FALSE NEIGHBOUR: 'it returns false'. Refute it at one input. -/
def confApartWrong : ChangeSpec := { name := "confApart", fn := fun _ => fun
  | [d1, d2, d3] => { results := [.lit (.bool false)], args := [d1, d2, d3] }
  | _ => none }
def ConfApartWrongFalsely : Prop := confApartRow.holds Try.pinned (OpenSpec.ofChange confApartWrong)

/- THE SECOND FORM. 'bulk': how many values and letters a reading holds, each counted each time it is reached (what is shared counts as often as it is met; a slice's spare places count too). A statement '..UptoSaid' is the law's where the arguments, and the package variables that the reading takes, are together of bulk at most 1048576: NARROWER than '..Said'. Prove '..Said' where nothing that the law and all that it calls make is longer than what came in: it says more and counts as full. Else prove '..UptoSaid'. A law counts once. -/
mutual
def uptoBulk {H : Type} : DataW H → Nat
  | .lit (.string bytes) => bytes.length + 1
  | .lit _ => 1
  | .nil => 1
  | .ptr d => uptoBulk d + 1
  | .slice elems spare => uptoBulkAll elems + uptoBulkAll spare + 1
  | .agg parts => uptoBulkAll parts + 1
  | .iface _ d => uptoBulk d + 1
  | .map entries => uptoBulkEntries entries + 1
  | .held _ => 1
def uptoBulkAll {H : Type} : List (DataW H) → Nat
  | [] => 0
  | d :: r => uptoBulk d + uptoBulkAll r
def uptoBulkEntries {H : Type} : List (Lit × DataW H) → Nat
  | [] => 0
  | x :: r => uptoBulkEntry x + uptoBulkEntries r
def uptoBulkEntry {H : Type} : Lit × DataW H → Nat
  | (.string bytes, d) => bytes.length + uptoBulk d + 1
  | (_, d) => uptoBulk d + 1
 end
def uptoSmall : (H : Type) → List (DataW H) → Bool := fun _ ds => decide (uptoBulkAll ds ≤ 1048576)
def OpenSpec.upto (s : _root_.Go.ChangeSpec) : _root_.Go.OpenSpec := { _root_.Go.OpenSpec.ofChange s with cond := some uptoSmall }

/-- 'commonagelaw05.ClassTells', WHERE WHAT IT READS IS OF BULK AT MOST 1048576: true; the input reads as it did. -/
def classTellsUptoRow : OpenClaim := { program := "ytcnaabkimgkpbaa", sum := "dde82696e7a42e60c5fd714125f008d3fa4a09403f1f34faf8f143298f7d5976", func := "commonage/commonagelaw05.ClassTells", spec := "classTells", unfollowed := true, recurses := true, apart := false, narrowed := true }
def ClassTellsUptoSaid : Prop := classTellsUptoRow.holds Try.pinned (OpenSpec.upto classTellsSpec)

/-- 'commonagelaw05.ClassRounds', WHERE WHAT IT READS IS OF BULK AT MOST 1048576: true; the input reads as it did. -/
def classRoundsUptoRow : OpenClaim := { program := "ytcnaabkimgkpbaa", sum := "dde82696e7a42e60c5fd714125f008d3fa4a09403f1f34faf8f143298f7d5976", func := "commonage/commonagelaw05.ClassRounds", spec := "classRounds", unfollowed := true, recurses := true, apart := false, narrowed := true }
def ClassRoundsUptoSaid : Prop := classRoundsUptoRow.holds Try.pinned (OpenSpec.upto classRoundsSpec)

/-- 'commonagelaw05.ClassEach', WHERE WHAT IT READS IS OF BULK AT MOST 1048576: true; the input reads as it did. -/
def classEachUptoRow : OpenClaim := { program := "ytcnaabkimgkpbaa", sum := "dde82696e7a42e60c5fd714125f008d3fa4a09403f1f34faf8f143298f7d5976", func := "commonage/commonagelaw05.ClassEach", spec := "classEach", unfollowed := true, recurses := true, apart := false, narrowed := true }
def ClassEachUptoSaid : Prop := classEachUptoRow.holds Try.pinned (OpenSpec.upto classEachSpec)

/-- 'commonagelaw06.ConfCuts', WHERE WHAT IT READS IS OF BULK AT MOST 1048576: true; the input reads as it did. -/
def confCutsUptoRow : OpenClaim := { program := "ytcnaabkimgkpbaa", sum := "dde82696e7a42e60c5fd714125f008d3fa4a09403f1f34faf8f143298f7d5976", func := "commonage/commonagelaw06.ConfCuts", spec := "confCuts", unfollowed := true, recurses := true, apart := false, narrowed := true }
def ConfCutsUptoSaid : Prop := confCutsUptoRow.holds Try.pinned (OpenSpec.upto confCutsSpec)

/-- 'commonagelaw06.ConfMore', WHERE WHAT IT READS IS OF BULK AT MOST 1048576: true; the input reads as it did. -/
def confMoreUptoRow : OpenClaim := { program := "ytcnaabkimgkpbaa", sum := "dde82696e7a42e60c5fd714125f008d3fa4a09403f1f34faf8f143298f7d5976", func := "commonage/commonagelaw06.ConfMore", spec := "confMore", unfollowed := true, recurses := true, apart := false, narrowed := true }
def ConfMoreUptoSaid : Prop := confMoreUptoRow.holds Try.pinned (OpenSpec.upto confMoreSpec)

/-- 'commonagelaw06.ConfPage', WHERE WHAT IT READS IS OF BULK AT MOST 1048576: true; the input reads as it did. -/
def confPageUptoRow : OpenClaim := { program := "ytcnaabkimgkpbaa", sum := "dde82696e7a42e60c5fd714125f008d3fa4a09403f1f34faf8f143298f7d5976", func := "commonage/commonagelaw06.ConfPage", spec := "confPage", unfollowed := true, recurses := true, apart := false, narrowed := true }
def ConfPageUptoSaid : Prop := confPageUptoRow.holds Try.pinned (OpenSpec.upto confPageSpec)

/-- 'commonagelaw06.ConfTells', WHERE WHAT IT READS IS OF BULK AT MOST 1048576: true; the input reads as it did. -/
def confTellsUptoRow : OpenClaim := { program := "ytcnaabkimgkpbaa", sum := "dde82696e7a42e60c5fd714125f008d3fa4a09403f1f34faf8f143298f7d5976", func := "commonage/commonagelaw06.ConfTells", spec := "confTells", unfollowed := true, recurses := true, apart := false, narrowed := true }
def ConfTellsUptoSaid : Prop := confTellsUptoRow.holds Try.pinned (OpenSpec.upto confTellsSpec)

/-- 'commonagelaw06.ConfApart', WHERE WHAT IT READS IS OF BULK AT MOST 1048576: true; the input reads as it did. -/
def confApartUptoRow : OpenClaim := { program := "ytcnaabkimgkpbaa", sum := "dde82696e7a42e60c5fd714125f008d3fa4a09403f1f34faf8f143298f7d5976", func := "commonage/commonagelaw06.ConfApart", spec := "confApart", unfollowed := true, recurses := true, apart := false, narrowed := true }
def ConfApartUptoSaid : Prop := confApartUptoRow.holds Try.pinned (OpenSpec.upto confApartSpec)

end Rows
end Go.Proofs.Ytcnaabkimgkpbaa
