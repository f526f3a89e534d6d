/-
  Small definitions and lemmas that all walks of this seat share: lists by index, worlds that extend worlds, rows of numbers in memory. No program is named here.
-/
import Derived.Below
import Derived.WalkKit
import Derived.Lib.Hide
import Derived.Deep.Draws
namespace Go.Proofs.Yteopbobhphghhaa
open Go.RowKit

/-! ### Lists by index -/
def nth (xs : List Int) (i : Nat) : Int := xs.getD i 0

theorem drop_nth (xs : List Int) (k : Nat) (h : k < xs.length) : xs.drop k = nth xs k :: xs.drop (k + 1) := by
  rw [List.drop_eq_getElem_cons h]; simp [nth, List.getD, h]

theorem nth_mem {xs : List Int} {k : Nat} (h : k < xs.length) : nth xs k ∈ xs := by
  simp [nth, List.getD, h]

theorem nth_ext {a b : List Int} (h : a.length = b.length) (he : ∀ i, i < a.length → nth a i = nth b i) : a = b := by
  refine List.ext_getElem h fun i h1 h2 => ?_
  have := he i h1
  simpa [nth, List.getD, h1, h2] using this

theorem nth_cons_zero (x : Int) (xs : List Int) : nth (x :: xs) 0 = x := rfl
theorem nth_cons_succ (x : Int) (xs : List Int) (k : Nat) : nth (x :: xs) (k + 1) = nth xs k := rfl

theorem drop_all {xs : List Int} {k : Nat} (h : xs.length ≤ k) : xs.drop k = [] := List.drop_of_length_le h

/-! ### Worlds that extend worlds: all that there was is as it was -/
def Ext (w w' : World) : Prop := Below w.heap.size w w'

theorem Ext.refl (w : World) : Ext w w := Below.refl _ _
theorem Ext.below {w w' : World} (h : Ext w w') : Below w.heap.size w w' := h
theorem Ext.of {w w' : World} (h : Below w.heap.size w w') : Ext w w' := h
theorem Ext.size {w w' : World} (h : Ext w w') : w.heap.size ≤ w'.heap.size := Below.size h
theorem Ext.trans {a b c : World} (h : Ext a b) (k : Ext b c) : Ext a c := Below.trans h (Below.mono k (Below.size h))
theorem Ext.alloc {a w : World} (h : Ext a w) (o : Obj) : Ext a (w.alloc o) := Below.alloc h (Below.size h) o
theorem Ext.drew {a w : World} (h : Ext a w) : Ext a w.drew := Below.drew h
theorem Ext.setCell {a w : World} (h : Ext a w) {p : Addr} (hp : a.heap.size ≤ p.block) (u : Value) : Ext a (w.setCell p u) := Below.setCell h hp u
theorem Ext.drewN {a w : World} (h : Ext a w) (n : Nat) : Ext a (w.drewN n) := by
  exact ⟨Below.os (w := a) (w' := w) h, Below.tape (w := a) (w' := w) h, Below.output (w := a) (w' := w) h, Below.size (w := a) (w' := w) h, Below.block (w := a) (w' := w) h⟩

theorem cell_lt {w : World} {p : Addr} {v : Value} (h : w.cell? p = some v) : p.block < w.heap.size := by
  unfold World.cell? at h
  rcases Nat.lt_or_ge p.block w.heap.size with hl | hl
  · exact hl
  · rw [Array.getElem?_eq_none hl] at h; simp at h

theorem Ext.cell {w w' : World} (h : Ext w w') {p : Addr} {v : Value} (hc : w.cell? p = some v) : w'.cell? p = some v := by
  rw [Below.cell h (cell_lt hc)]; exact hc
theorem Ext.block {w w' : World} (h : Ext w w') {k : Nat} {o : Obj} (hc : w.heap[k]? = some o) : w'.heap[k]? = some o := by
  rw [Below.block h k (Array.getElem?_eq_some_iff.1 hc).1]; exact hc
theorem Ext.frozen {w w' : World} (h : Ext w w') {p : Addr} (hp : p.block < w.heap.size) : w'.frozen? p = w.frozen? p := Below.frozen h hp

/-- The one cell of a new block. -/
theorem cell_new1 (w : World) (v : Value) (t : TypeId) : (w.alloc (.cells #[v] t)).cell? ⟨w.heap.size, 0, none⟩ = some v := by
  simp
theorem cell_newN (w : World) (vs : Array Value) (t : TypeId) (i : Nat) : (w.alloc (.cells vs t)).cell? ⟨w.heap.size, i, none⟩ = vs[i]? := by
  simp
theorem cell_alloc {w : World} {p : Addr} {v : Value} (h : w.cell? p = some v) (o : Obj) : (w.alloc o).cell? p = some v := ((Ext.refl w).alloc o).cell h

/-! ### Rows of numbers in memory: 'a' leads to the numbers xs, one behind the other -/
def At (k : IntKind) (w : World) (a : Option Addr) (xs : List Int) : Prop :=
  ∀ i, i < xs.length → ∃ b o, a = some ⟨b, o, none⟩ ∧ w.cell? ⟨b, o + i, none⟩ = some (.int k (nth xs i))

theorem At.pos {k : IntKind} {w : World} {a : Option Addr} {xs : List Int} (h : At k w a xs) (h0 : 0 < xs.length) :
    ∃ b o, a = some ⟨b, o, none⟩ ∧ ∀ i, i < xs.length → w.cell? ⟨b, o + i, none⟩ = some (.int k (nth xs i)) := by
  obtain ⟨b, o, rfl, _⟩ := h 0 h0
  refine ⟨b, o, rfl, fun i hi => ?_⟩
  obtain ⟨b', o', e, hc⟩ := h i hi
  cases e; exact hc

theorem At.ext {k : IntKind} {w w' : World} {a : Option Addr} {xs : List Int} (h : At k w a xs) (hx : Ext w w') : At k w' a xs := by
  intro i hi
  obtain ⟨b, o, e, hc⟩ := h i hi
  exact ⟨b, o, e, hx.cell hc⟩

theorem At.nil {k : IntKind} {w : World} {a : Option Addr} : At k w a [] := fun _ h => absurd h (Nat.not_lt_zero _)

theorem At.mk {k : IntKind} {w : World} {b o : Nat} {xs : List Int} (h : ∀ i, i < xs.length → w.cell? ⟨b, o + i, none⟩ = some (.int k (nth xs i))) : At k w (some ⟨b, o, none⟩) xs :=
  fun i hi => ⟨b, o, rfl, h i hi⟩

theorem At.new (k : IntKind) (w : World) (xs : List Int) (t : TypeId) : At k (w.alloc (.cells (xs.map (Value.int k)).toArray t)) (some ⟨w.heap.size, 0, none⟩) xs := by
  refine At.mk fun i hi => ?_
  rw [Nat.zero_add, cell_newN]
  simp [nth, List.getD, hi]

theorem At.newb (k : IntKind) (w : World) (xs : List Int) (t : TypeId) (b : Nat) (hb : w.heap.size = b) : At k (w.alloc (.cells (xs.map (Value.int k)).toArray t)) (some ⟨b, 0, none⟩) xs := by
  subst hb; exact At.new k w xs t

/-- A row as the row's frame tells of it: the numbers that are its elements. -/
theorem At.of_row {k : IntKind} {w : World} {a : Option Addr} {len cap : Nat} {zs : List Int}
    (h : (a = none ∧ len = 0 ∧ cap = 0 ∧ zs = []) ∨ ∃ x, a = some x ∧ len ≤ cap ∧ cap ≤ maxLen ∧ zs.length = cap ∧ (∀ i, i < zs.length → w.cell? (x.add i) = some (.int k (zs.getD i 0))) ∧ ∀ n ∈ zs, (Lit.int k n).wf = true) :
    At k w a (zs.take len) ∧ (zs.take len).length = len ∧ len ≤ maxLen ∧ ∀ n ∈ zs.take len, (Lit.int k n).wf = true := by
  rcases h with ⟨rfl, rfl, rfl, rfl⟩ | ⟨x, rfl, hl, hm, hz, hc, hw⟩
  · exact ⟨At.nil, rfl, Nat.zero_le _, fun n hn => by simp at hn⟩
  · have hlen : (zs.take len).length = len := by rw [List.length_take]; omega
    refine ⟨?_, hlen, by omega, fun n hn => hw n (List.mem_of_mem_take hn)⟩
    intro i hi
    rw [hlen] at hi
    have h0 := hc i (by omega)
    obtain ⟨b, o, s⟩ := x
    have hs : s = none := by
      cases s with
      | none => rfl
      | some s =>
        have h1 := hc 0 (by omega)
        simp [Addr.add, World.cell?] at h1
        split at h1 <;> cases h1
    subst hs
    refine ⟨b, o, rfl, ?_⟩
    rw [Addr.add_lit] at h0
    rw [h0]; simp [nth, List.getD, hi]

/-- A contract's end, by name: what is handed back, and that all that there was is as it was. -/
theorem ret_int {k : IntKind} {a b : Int} (h : a = b) : Ending.returned (.int k a) = .returned (.int k b) := by rw [h]
theorem ret_bool {a b : Bool} (h : a = b) : Ending.returned (.bool a) = .returned (.bool b) := by rw [h]
theorem ret_int2 {k l : IntKind} {a b c d : Int} (h : a = b) (h' : c = d) : Ending.returned (.tuple #[.int k a, .int l c]) = .returned (.tuple #[.int k b, .int l d]) := by rw [h, h']

theorem mod_nat {tn : Int} {n : Nat} (hn : 1 ≤ n) : ∃ i : Nat, tn % (n : Int) = i ∧ i < n := by
  have h1 := Int.emod_nonneg tn (by omega : (n : Int) ≠ 0)
  have h2 := Int.emod_lt_of_pos tn (by omega : 0 < (n : Int))
  exact ⟨(tn % n).toNat, by omega, by omega⟩

end Go.Proofs.Yteopbobhphghhaa
