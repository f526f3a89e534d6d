/-
  No cell of these rows narrows 'for every input' (looked for: loops, veiled, ifaces, maps, wideKeys, modest, calm, conditions, laid).
  DERIVED. THE GIVEN ROWS OF THIS SEAT. 9 by the template 'for every input the law returns true; each argument reads behind the call as it read before'; 0 by the template 'total and deterministic' (their statements: YtjdagameeopadaaTotals.lean).
  GIVEN WITH THE SEED: the statements are not yours to turn. If you find one false, say at which input.
  Laid BY PROGRAM, IN A SANDBOX (cutbox-rows.mjs): the forced cells as the released guide's own fill.sh prints them over the translation f6bd839ca74d6f71… (all of the seat's roots in one cut). By AI agents, Wed Nov 11 2026. No macro, syntax, notation, axiom, sorry.
-/
import Derived.Test.YtjdagameeopadaaChecked
import GoSem.Claim
import GoSem.ClaimJoined
import GoSem.ClaimMapViews
import Derived.JoinedTies
import Derived.KernelRfl
namespace Go.Proofs.Ytjdagameeopadaa
/- THE CELL 'sum', in the pinned program and in every row, IS THE sha256 OF THE DUMP (.gsa) THAT YtjdagameeopadaaProg.lean LOADS. Nothing in Lean hashes anything: it is a label: what it is worth is what the hold of that sum in a sandbox is worth. -/
noncomputable def Try.pinned : Pinned := { name := "ytjdagameeopadaa", sum := "f6bd839ca74d6f71ed7bbfffb08cbb369d5b45ab32be00437dc3718c0a98aa15", checked := Try.checked }
namespace Rows
def none {H : Type} : Left H := { results := [], args := [] }

/-- 'commonagelaw03.FieldTells': WHATEVER THE INPUT: true; the input reads as it did. -/
def fieldTellsSpec : ChangeSpec := { name := "fieldTells", fn := fun _ => fun
  | [d1, d2] => { results := [.lit (.bool true)], args := [d1, d2] }
  | _ => none }
def fieldTellsRow : OpenClaim := { program := "ytjdagameeopadaa", sum := "f6bd839ca74d6f71ed7bbfffb08cbb369d5b45ab32be00437dc3718c0a98aa15", func := "commonage/commonagelaw03.FieldTells", spec := "fieldTells", unfollowed := true, recurses := true, apart := false }
def FieldTellsSaid : Prop := fieldTellsRow.holds Try.pinned (OpenSpec.ofChange fieldTellsSpec)

/-- ITS FALSE NEIGHBOUR: 'it returns false'. Refute it at one input. -/
def fieldTellsWrong : ChangeSpec := { name := "fieldTells", fn := fun _ => fun
  | [d1, d2] => { results := [.lit (.bool false)], args := [d1, d2] }
  | _ => none }
def FieldTellsWrongFalsely : Prop := fieldTellsRow.holds Try.pinned (OpenSpec.ofChange fieldTellsWrong)

/-- 'commonagelaw03.FieldPacks': WHATEVER THE INPUT: true; the input reads as it did. -/
def fieldPacksSpec : ChangeSpec := { name := "fieldPacks", fn := fun _ => fun
  | [d1, d2, d3] => { results := [.lit (.bool true)], args := [d1, d2, d3] }
  | _ => none }
def fieldPacksRow : OpenClaim := { program := "ytjdagameeopadaa", sum := "f6bd839ca74d6f71ed7bbfffb08cbb369d5b45ab32be00437dc3718c0a98aa15", func := "commonage/commonagelaw03.FieldPacks", spec := "fieldPacks", unfollowed := true, recurses := true, apart := false }
def FieldPacksSaid : Prop := fieldPacksRow.holds Try.pinned (OpenSpec.ofChange fieldPacksSpec)

/-- ITS FALSE NEIGHBOUR: 'it returns false'. Refute it at one input. -/
def fieldPacksWrong : ChangeSpec := { name := "fieldPacks", fn := fun _ => fun
  | [d1, d2, d3] => { results := [.lit (.bool false)], args := [d1, d2, d3] }
  | _ => none }
def FieldPacksWrongFalsely : Prop := fieldPacksRow.holds Try.pinned (OpenSpec.ofChange fieldPacksWrong)

/-- 'commonagelaw03.FieldApart': WHATEVER THE INPUT: true; the input reads as it did. -/
def fieldApartSpec : ChangeSpec := { name := "fieldApart", fn := fun _ => fun
  | [d1, d2, d3] => { results := [.lit (.bool true)], args := [d1, d2, d3] }
  | _ => none }
def fieldApartRow : OpenClaim := { program := "ytjdagameeopadaa", sum := "f6bd839ca74d6f71ed7bbfffb08cbb369d5b45ab32be00437dc3718c0a98aa15", func := "commonage/commonagelaw03.FieldApart", spec := "fieldApart", unfollowed := true, recurses := true, apart := false }
def FieldApartSaid : Prop := fieldApartRow.holds Try.pinned (OpenSpec.ofChange fieldApartSpec)

/-- ITS FALSE NEIGHBOUR: 'it returns false'. Refute it at one input. -/
def fieldApartWrong : ChangeSpec := { name := "fieldApart", fn := fun _ => fun
  | [d1, d2, d3] => { results := [.lit (.bool false)], args := [d1, d2, d3] }
  | _ => none }
def FieldApartWrongFalsely : Prop := fieldApartRow.holds Try.pinned (OpenSpec.ofChange fieldApartWrong)

/-- 'commonagelaw03.FieldBack': WHATEVER THE INPUT: true; the input reads as it did. -/
def fieldBackSpec : ChangeSpec := { name := "fieldBack", fn := fun _ => fun
  | [d1, d2, d3] => { results := [.lit (.bool true)], args := [d1, d2, d3] }
  | _ => none }
def fieldBackRow : OpenClaim := { program := "ytjdagameeopadaa", sum := "f6bd839ca74d6f71ed7bbfffb08cbb369d5b45ab32be00437dc3718c0a98aa15", func := "commonage/commonagelaw03.FieldBack", spec := "fieldBack", unfollowed := true, recurses := true, apart := false }
def FieldBackSaid : Prop := fieldBackRow.holds Try.pinned (OpenSpec.ofChange fieldBackSpec)

/-- ITS FALSE NEIGHBOUR: 'it returns false'. Refute it at one input. -/
def fieldBackWrong : ChangeSpec := { name := "fieldBack", fn := fun _ => fun
  | [d1, d2, d3] => { results := [.lit (.bool false)], args := [d1, d2, d3] }
  | _ => none }
def FieldBackWrongFalsely : Prop := fieldBackRow.holds Try.pinned (OpenSpec.ofChange fieldBackWrong)

/-- 'commonagelaw03.FieldParts': WHATEVER THE INPUT: true; the input reads as it did. -/
def fieldPartsSpec : ChangeSpec := { name := "fieldParts", fn := fun _ => fun
  | [d1, d2] => { results := [.lit (.bool true)], args := [d1, d2] }
  | _ => none }
def fieldPartsRow : OpenClaim := { program := "ytjdagameeopadaa", sum := "f6bd839ca74d6f71ed7bbfffb08cbb369d5b45ab32be00437dc3718c0a98aa15", func := "commonage/commonagelaw03.FieldParts", spec := "fieldParts", unfollowed := true, recurses := true, apart := false }
def FieldPartsSaid : Prop := fieldPartsRow.holds Try.pinned (OpenSpec.ofChange fieldPartsSpec)

/-- ITS FALSE NEIGHBOUR: 'it returns false'. Refute it at one input. -/
def fieldPartsWrong : ChangeSpec := { name := "fieldParts", fn := fun _ => fun
  | [d1, d2] => { results := [.lit (.bool false)], args := [d1, d2] }
  | _ => none }
def FieldPartsWrongFalsely : Prop := fieldPartsRow.holds Try.pinned (OpenSpec.ofChange fieldPartsWrong)

/-- 'commonagelaw03.FieldTwice': WHATEVER THE INPUT: true; the input reads as it did. -/
def fieldTwiceSpec : ChangeSpec := { name := "fieldTwice", fn := fun _ => fun
  | [d1, d2, d3] => { results := [.lit (.bool true)], args := [d1, d2, d3] }
  | _ => none }
def fieldTwiceRow : OpenClaim := { program := "ytjdagameeopadaa", sum := "f6bd839ca74d6f71ed7bbfffb08cbb369d5b45ab32be00437dc3718c0a98aa15", func := "commonage/commonagelaw03.FieldTwice", spec := "fieldTwice", unfollowed := true, recurses := true, apart := false }
def FieldTwiceSaid : Prop := fieldTwiceRow.holds Try.pinned (OpenSpec.ofChange fieldTwiceSpec)

/-- ITS FALSE NEIGHBOUR: 'it returns false'. Refute it at one input. -/
def fieldTwiceWrong : ChangeSpec := { name := "fieldTwice", fn := fun _ => fun
  | [d1, d2, d3] => { results := [.lit (.bool false)], args := [d1, d2, d3] }
  | _ => none }
def FieldTwiceWrongFalsely : Prop := fieldTwiceRow.holds Try.pinned (OpenSpec.ofChange fieldTwiceWrong)

/-- 'commonagelaw12.CapaPuts': WHATEVER THE INPUT: true; the input reads as it did. -/
def capaPutsSpec : ChangeSpec := { name := "capaPuts", fn := fun _ => fun
  | [d] => { results := [.lit (.bool true)], args := [d] }
  | _ => none }
def capaPutsRow : OpenClaim := { program := "ytjdagameeopadaa", sum := "f6bd839ca74d6f71ed7bbfffb08cbb369d5b45ab32be00437dc3718c0a98aa15", func := "commonage/commonagelaw12.CapaPuts", spec := "capaPuts", unfollowed := true, recurses := true, apart := false }
def CapaPutsSaid : Prop := capaPutsRow.holds Try.pinned (OpenSpec.ofChange capaPutsSpec)

/-- ITS FALSE NEIGHBOUR: 'it returns false'. Refute it at one input. -/
def capaPutsWrong : ChangeSpec := { name := "capaPuts", fn := fun _ => fun
  | [d] => { results := [.lit (.bool false)], args := [d] }
  | _ => none }
def CapaPutsWrongFalsely : Prop := capaPutsRow.holds Try.pinned (OpenSpec.ofChange capaPutsWrong)

/-- 'commonagelaw12.CapaGets': WHATEVER THE INPUT: true; the input reads as it did. -/
def capaGetsSpec : ChangeSpec := { name := "capaGets", fn := fun _ => fun
  | [d1, d2, d3] => { results := [.lit (.bool true)], args := [d1, d2, d3] }
  | _ => none }
def capaGetsRow : OpenClaim := { program := "ytjdagameeopadaa", sum := "f6bd839ca74d6f71ed7bbfffb08cbb369d5b45ab32be00437dc3718c0a98aa15", func := "commonage/commonagelaw12.CapaGets", spec := "capaGets", unfollowed := true, recurses := true, apart := false }
def CapaGetsSaid : Prop := capaGetsRow.holds Try.pinned (OpenSpec.ofChange capaGetsSpec)

/-- ITS FALSE NEIGHBOUR: 'it returns false'. Refute it at one input. -/
def capaGetsWrong : ChangeSpec := { name := "capaGets", fn := fun _ => fun
  | [d1, d2, d3] => { results := [.lit (.bool false)], args := [d1, d2, d3] }
  | _ => none }
def CapaGetsWrongFalsely : Prop := capaGetsRow.holds Try.pinned (OpenSpec.ofChange capaGetsWrong)

/-- 'commonagelaw12.CapaRises': WHATEVER THE INPUT: true; the input reads as it did. -/
def capaRisesSpec : ChangeSpec := { name := "capaRises", fn := fun _ => fun
  | [d1, d2, d3] => { results := [.lit (.bool true)], args := [d1, d2, d3] }
  | _ => none }
def capaRisesRow : OpenClaim := { program := "ytjdagameeopadaa", sum := "f6bd839ca74d6f71ed7bbfffb08cbb369d5b45ab32be00437dc3718c0a98aa15", func := "commonage/commonagelaw12.CapaRises", spec := "capaRises", unfollowed := true, recurses := true, apart := false }
def CapaRisesSaid : Prop := capaRisesRow.holds Try.pinned (OpenSpec.ofChange capaRisesSpec)

/-- ITS FALSE NEIGHBOUR: 'it returns false'. Refute it at one input. -/
def capaRisesWrong : ChangeSpec := { name := "capaRises", fn := fun _ => fun
  | [d1, d2, d3] => { results := [.lit (.bool false)], args := [d1, d2, d3] }
  | _ => none }
def CapaRisesWrongFalsely : Prop := capaRisesRow.holds Try.pinned (OpenSpec.ofChange capaRisesWrong)

/- THE SECOND FORM. 'bulk': how many values and letters a reading holds, each counted each time it is reached (what is shared counts as often as it is met; a slice's spare places count too). A statement '..UptoSaid' is the law's where the arguments, and the package variables that the reading takes, are together of bulk at most 1048576: NARROWER than '..Said'. Prove '..Said' where nothing that the law and all that it calls make is longer than what came in: it says more and counts as full. Else prove '..UptoSaid'. A law counts once. -/
mutual
def uptoBulk {H : Type} : DataW H → Nat
  | .lit (.string bytes) => bytes.length + 1
  | .lit _ => 1
  | .nil => 1
  | .ptr d => uptoBulk d + 1
  | .slice elems spare => uptoBulkAll elems + uptoBulkAll spare + 1
  | .agg parts => uptoBulkAll parts + 1
  | .iface _ d => uptoBulk d + 1
  | .map entries => uptoBulkEntries entries + 1
  | .held _ => 1
def uptoBulkAll {H : Type} : List (DataW H) → Nat
  | [] => 0
  | d :: r => uptoBulk d + uptoBulkAll r
def uptoBulkEntries {H : Type} : List (Lit × DataW H) → Nat
  | [] => 0
  | x :: r => uptoBulkEntry x + uptoBulkEntries r
def uptoBulkEntry {H : Type} : Lit × DataW H → Nat
  | (.string bytes, d) => bytes.length + uptoBulk d + 1
  | (_, d) => uptoBulk d + 1
 end
def uptoSmall : (H : Type) → List (DataW H) → Bool := fun _ ds => decide (uptoBulkAll ds ≤ 1048576)
def OpenSpec.upto (s : _root_.Go.ChangeSpec) : _root_.Go.OpenSpec := { _root_.Go.OpenSpec.ofChange s with cond := some uptoSmall }

/-- 'commonagelaw03.FieldTells', WHERE WHAT IT READS IS OF BULK AT MOST 1048576: true; the input reads as it did. -/
def fieldTellsUptoRow : OpenClaim := { program := "ytjdagameeopadaa", sum := "f6bd839ca74d6f71ed7bbfffb08cbb369d5b45ab32be00437dc3718c0a98aa15", func := "commonage/commonagelaw03.FieldTells", spec := "fieldTells", unfollowed := true, recurses := true, apart := false, narrowed := true }
def FieldTellsUptoSaid : Prop := fieldTellsUptoRow.holds Try.pinned (OpenSpec.upto fieldTellsSpec)

/-- 'commonagelaw03.FieldPacks', WHERE WHAT IT READS IS OF BULK AT MOST 1048576: true; the input reads as it did. -/
def fieldPacksUptoRow : OpenClaim := { program := "ytjdagameeopadaa", sum := "f6bd839ca74d6f71ed7bbfffb08cbb369d5b45ab32be00437dc3718c0a98aa15", func := "commonage/commonagelaw03.FieldPacks", spec := "fieldPacks", unfollowed := true, recurses := true, apart := false, narrowed := true }
def FieldPacksUptoSaid : Prop := fieldPacksUptoRow.holds Try.pinned (OpenSpec.upto fieldPacksSpec)

/-- 'commonagelaw03.FieldApart', WHERE WHAT IT READS IS OF BULK AT MOST 1048576: true; the input reads as it did. -/
def fieldApartUptoRow : OpenClaim := { program := "ytjdagameeopadaa", sum := "f6bd839ca74d6f71ed7bbfffb08cbb369d5b45ab32be00437dc3718c0a98aa15", func := "commonage/commonagelaw03.FieldApart", spec := "fieldApart", unfollowed := true, recurses := true, apart := false, narrowed := true }
def FieldApartUptoSaid : Prop := fieldApartUptoRow.holds Try.pinned (OpenSpec.upto fieldApartSpec)

/-- 'commonagelaw03.FieldBack', WHERE WHAT IT READS IS OF BULK AT MOST 1048576: true; the input reads as it did. -/
def fieldBackUptoRow : OpenClaim := { program := "ytjdagameeopadaa", sum := "f6bd839ca74d6f71ed7bbfffb08cbb369d5b45ab32be00437dc3718c0a98aa15", func := "commonage/commonagelaw03.FieldBack", spec := "fieldBack", unfollowed := true, recurses := true, apart := false, narrowed := true }
def FieldBackUptoSaid : Prop := fieldBackUptoRow.holds Try.pinned (OpenSpec.upto fieldBackSpec)

/-- 'commonagelaw03.FieldParts', WHERE WHAT IT READS IS OF BULK AT MOST 1048576: true; the input reads as it did. -/
def fieldPartsUptoRow : OpenClaim := { program := "ytjdagameeopadaa", sum := "f6bd839ca74d6f71ed7bbfffb08cbb369d5b45ab32be00437dc3718c0a98aa15", func := "commonage/commonagelaw03.FieldParts", spec := "fieldParts", unfollowed := true, recurses := true, apart := false, narrowed := true }
def FieldPartsUptoSaid : Prop := fieldPartsUptoRow.holds Try.pinned (OpenSpec.upto fieldPartsSpec)

/-- 'commonagelaw03.FieldTwice', WHERE WHAT IT READS IS OF BULK AT MOST 1048576: true; the input reads as it did. -/
def fieldTwiceUptoRow : OpenClaim := { program := "ytjdagameeopadaa", sum := "f6bd839ca74d6f71ed7bbfffb08cbb369d5b45ab32be00437dc3718c0a98aa15", func := "commonage/commonagelaw03.FieldTwice", spec := "fieldTwice", unfollowed := true, recurses := true, apart := false, narrowed := true }
def FieldTwiceUptoSaid : Prop := fieldTwiceUptoRow.holds Try.pinned (OpenSpec.upto fieldTwiceSpec)

/-- 'commonagelaw12.CapaPuts', WHERE WHAT IT READS IS OF BULK AT MOST 1048576: true; the input reads as it did. -/
def capaPutsUptoRow : OpenClaim := { program := "ytjdagameeopadaa", sum := "f6bd839ca74d6f71ed7bbfffb08cbb369d5b45ab32be00437dc3718c0a98aa15", func := "commonage/commonagelaw12.CapaPuts", spec := "capaPuts", unfollowed := true, recurses := true, apart := false, narrowed := true }
def CapaPutsUptoSaid : Prop := capaPutsUptoRow.holds Try.pinned (OpenSpec.upto capaPutsSpec)

/-- 'commonagelaw12.CapaGets', WHERE WHAT IT READS IS OF BULK AT MOST 1048576: true; the input reads as it did. -/
def capaGetsUptoRow : OpenClaim := { program := "ytjdagameeopadaa", sum := "f6bd839ca74d6f71ed7bbfffb08cbb369d5b45ab32be00437dc3718c0a98aa15", func := "commonage/commonagelaw12.CapaGets", spec := "capaGets", unfollowed := true, recurses := true, apart := false, narrowed := true }
def CapaGetsUptoSaid : Prop := capaGetsUptoRow.holds Try.pinned (OpenSpec.upto capaGetsSpec)

/-- 'commonagelaw12.CapaRises', WHERE WHAT IT READS IS OF BULK AT MOST 1048576: true; the input reads as it did. -/
def capaRisesUptoRow : OpenClaim := { program := "ytjdagameeopadaa", sum := "f6bd839ca74d6f71ed7bbfffb08cbb369d5b45ab32be00437dc3718c0a98aa15", func := "commonage/commonagelaw12.CapaRises", spec := "capaRises", unfollowed := true, recurses := true, apart := false, narrowed := true }
def CapaRisesUptoSaid : Prop := capaRisesUptoRow.holds Try.pinned (OpenSpec.upto capaRisesSpec)

end Rows
end Go.Proofs.Ytjdagameeopadaa
