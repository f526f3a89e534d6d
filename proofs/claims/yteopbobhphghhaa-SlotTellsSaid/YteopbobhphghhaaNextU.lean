/-
  The first values of a sequence. No program is named here.
-/
import Derived.WalkKit
namespace Go.Proofs.Yteopbobhphghhaa

def upto {α : Type} (f : Nat → α) (k : Nat) : List α := (List.range k).map f
theorem upto_succ {α : Type} (f : Nat → α) (k : Nat) : upto f (k + 1) = upto f k ++ [f k] := by simp [upto, List.range_succ]
theorem upto_length {α : Type} (f : Nat → α) (k : Nat) : (upto f k).length = k := by simp [upto]
theorem upto_snoc {α : Type} {f : Nat → α} {pre : List α} {x : α} (h : pre ++ [x] = upto f (pre ++ [x]).length) : pre = upto f pre.length ∧ x = f pre.length := by
  rw [List.length_append, List.length_singleton, upto_succ] at h
  have h1 := List.append_inj h (by simp [upto_length])
  exact ⟨h1.1, by simpa using h1.2⟩

end Go.Proofs.Yteopbobhphghhaa
