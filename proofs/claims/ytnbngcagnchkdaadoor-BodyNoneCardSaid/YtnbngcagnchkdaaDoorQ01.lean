/-
  Merged texts: Base, FieldP, WidP, HeadP, ClassP, ConfP, SlotP, MemP, MemQ.
-/
import Derived.Below
import Derived.WalkKit
import Derived.Lib.Hide
import Derived.Deep.Draws
import Derived.Laws.BitsAllLaws
set_option linter.unusedVariables false
set_option linter.unusedSimpArgs false
/-! Small definitions and lemmas that all walks of this seat share: lists by index, worlds that extend worlds, rows of numbers in memory. No program is named here. -/
namespace Go.Proofs.YtnbngcagnchkdaaDoor
open Go.RowKit

/-! ### Lists by index -/
def nth (xs : List Int) (i : Nat) : Int := xs.getD i 0

theorem drop_nth (xs : List Int) (k : Nat) (h : k < xs.length) : xs.drop k = nth xs k :: xs.drop (k + 1) := by
  rw [List.drop_eq_getElem_cons h]; simp [nth, List.getD, h]

theorem nth_mem {xs : List Int} {k : Nat} (h : k < xs.length) : nth xs k ∈ xs := by
  simp [nth, List.getD, h]

theorem nth_ext {a b : List Int} (h : a.length = b.length) (he : ∀ i, i < a.length → nth a i = nth b i) : a = b := by
  refine List.ext_getElem h fun i h1 h2 => ?_
  have := he i h1
  simpa [nth, List.getD, h1, h2] using this

theorem nth_cons_zero (x : Int) (xs : List Int) : nth (x :: xs) 0 = x := rfl
theorem nth_cons_succ (x : Int) (xs : List Int) (k : Nat) : nth (x :: xs) (k + 1) = nth xs k := rfl

theorem drop_all {xs : List Int} {k : Nat} (h : xs.length ≤ k) : xs.drop k = [] := List.drop_of_length_le h

/-! ### Worlds that extend worlds: all that there was is as it was -/
def Ext (w w' : World) : Prop := Below w.heap.size w w'

theorem Ext.refl (w : World) : Ext w w := Below.refl _ _
theorem Ext.below {w w' : World} (h : Ext w w') : Below w.heap.size w w' := h
theorem Ext.of {w w' : World} (h : Below w.heap.size w w') : Ext w w' := h
theorem Ext.size {w w' : World} (h : Ext w w') : w.heap.size ≤ w'.heap.size := Below.size h
theorem Ext.trans {a b c : World} (h : Ext a b) (k : Ext b c) : Ext a c := Below.trans h (Below.mono k (Below.size h))
theorem Ext.alloc {a w : World} (h : Ext a w) (o : Obj) : Ext a (w.alloc o) := Below.alloc h (Below.size h) o
theorem Ext.drew {a w : World} (h : Ext a w) : Ext a w.drew := Below.drew h
theorem Ext.setCell {a w : World} (h : Ext a w) {p : Addr} (hp : a.heap.size ≤ p.block) (u : Value) : Ext a (w.setCell p u) := Below.setCell h hp u
theorem Ext.drewN {a w : World} (h : Ext a w) (n : Nat) : Ext a (w.drewN n) := by
  exact ⟨Below.os (w := a) (w' := w) h, Below.tape (w := a) (w' := w) h, Below.output (w := a) (w' := w) h, Below.size (w := a) (w' := w) h, Below.block (w := a) (w' := w) h⟩

theorem cell_lt {w : World} {p : Addr} {v : Value} (h : w.cell? p = some v) : p.block < w.heap.size := by
  unfold World.cell? at h
  rcases Nat.lt_or_ge p.block w.heap.size with hl | hl
  · exact hl
  · rw [Array.getElem?_eq_none hl] at h; simp at h

theorem Ext.cell {w w' : World} (h : Ext w w') {p : Addr} {v : Value} (hc : w.cell? p = some v) : w'.cell? p = some v := by
  rw [Below.cell h (cell_lt hc)]; exact hc
theorem Ext.block {w w' : World} (h : Ext w w') {k : Nat} {o : Obj} (hc : w.heap[k]? = some o) : w'.heap[k]? = some o := by
  rw [Below.block h k (Array.getElem?_eq_some_iff.1 hc).1]; exact hc
theorem Ext.frozen {w w' : World} (h : Ext w w') {p : Addr} (hp : p.block < w.heap.size) : w'.frozen? p = w.frozen? p := Below.frozen h hp

/-- The one cell of a new block. -/
theorem cell_new1 (w : World) (v : Value) (t : TypeId) : (w.alloc (.cells #[v] t)).cell? ⟨w.heap.size, 0, none⟩ = some v := by
  simp
theorem cell_newN (w : World) (vs : Array Value) (t : TypeId) (i : Nat) : (w.alloc (.cells vs t)).cell? ⟨w.heap.size, i, none⟩ = vs[i]? := by
  simp
theorem cell_alloc {w : World} {p : Addr} {v : Value} (h : w.cell? p = some v) (o : Obj) : (w.alloc o).cell? p = some v := ((Ext.refl w).alloc o).cell h

/-! ### Rows of numbers in memory: 'a' leads to the numbers xs, one behind the other -/
def At (k : IntKind) (w : World) (a : Option Addr) (xs : List Int) : Prop :=
  ∀ i, i < xs.length → ∃ b o, a = some ⟨b, o, none⟩ ∧ w.cell? ⟨b, o + i, none⟩ = some (.int k (nth xs i))

theorem At.pos {k : IntKind} {w : World} {a : Option Addr} {xs : List Int} (h : At k w a xs) (h0 : 0 < xs.length) :
    ∃ b o, a = some ⟨b, o, none⟩ ∧ ∀ i, i < xs.length → w.cell? ⟨b, o + i, none⟩ = some (.int k (nth xs i)) := by
  obtain ⟨b, o, rfl, _⟩ := h 0 h0
  refine ⟨b, o, rfl, fun i hi => ?_⟩
  obtain ⟨b', o', e, hc⟩ := h i hi
  cases e; exact hc

theorem At.ext {k : IntKind} {w w' : World} {a : Option Addr} {xs : List Int} (h : At k w a xs) (hx : Ext w w') : At k w' a xs := by
  intro i hi
  obtain ⟨b, o, e, hc⟩ := h i hi
  exact ⟨b, o, e, hx.cell hc⟩

theorem At.nil {k : IntKind} {w : World} {a : Option Addr} : At k w a [] := fun _ h => absurd h (Nat.not_lt_zero _)

theorem At.mk {k : IntKind} {w : World} {b o : Nat} {xs : List Int} (h : ∀ i, i < xs.length → w.cell? ⟨b, o + i, none⟩ = some (.int k (nth xs i))) : At k w (some ⟨b, o, none⟩) xs :=
  fun i hi => ⟨b, o, rfl, h i hi⟩

theorem At.new (k : IntKind) (w : World) (xs : List Int) (t : TypeId) : At k (w.alloc (.cells (xs.map (Value.int k)).toArray t)) (some ⟨w.heap.size, 0, none⟩) xs := by
  refine At.mk fun i hi => ?_
  rw [Nat.zero_add, cell_newN]
  simp [nth, List.getD, hi]

theorem At.newb (k : IntKind) (w : World) (xs : List Int) (t : TypeId) (b : Nat) (hb : w.heap.size = b) : At k (w.alloc (.cells (xs.map (Value.int k)).toArray t)) (some ⟨b, 0, none⟩) xs := by
  subst hb; exact At.new k w xs t

/-- A row as the row's frame tells of it: the numbers that are its elements. -/
theorem At.of_row {k : IntKind} {w : World} {a : Option Addr} {len cap : Nat} {zs : List Int}
    (h : (a = none ∧ len = 0 ∧ cap = 0 ∧ zs = []) ∨ ∃ x, a = some x ∧ len ≤ cap ∧ cap ≤ maxLen ∧ zs.length = cap ∧ (∀ i, i < zs.length → w.cell? (x.add i) = some (.int k (zs.getD i 0))) ∧ ∀ n ∈ zs, (Lit.int k n).wf = true) :
    At k w a (zs.take len) ∧ (zs.take len).length = len ∧ len ≤ maxLen ∧ ∀ n ∈ zs.take len, (Lit.int k n).wf = true := by
  rcases h with ⟨rfl, rfl, rfl, rfl⟩ | ⟨x, rfl, hl, hm, hz, hc, hw⟩
  · exact ⟨At.nil, rfl, Nat.zero_le _, fun n hn => by simp at hn⟩
  · have hlen : (zs.take len).length = len := by rw [List.length_take]; omega
    refine ⟨?_, hlen, by omega, fun n hn => hw n (List.mem_of_mem_take hn)⟩
    intro i hi
    rw [hlen] at hi
    have h0 := hc i (by omega)
    obtain ⟨b, o, s⟩ := x
    have hs : s = none := by
      cases s with
      | none => rfl
      | some s =>
        have h1 := hc 0 (by omega)
        simp [Addr.add, World.cell?] at h1
        split at h1 <;> cases h1
    subst hs
    refine ⟨b, o, rfl, ?_⟩
    rw [Addr.add_lit] at h0
    rw [h0]; simp [nth, List.getD, hi]

/-- A contract's end, by name: what is handed back, and that all that there was is as it was. -/
theorem ret_int {k : IntKind} {a b : Int} (h : a = b) : Ending.returned (.int k a) = .returned (.int k b) := by rw [h]
theorem ret_bool {a b : Bool} (h : a = b) : Ending.returned (.bool a) = .returned (.bool b) := by rw [h]
theorem ret_int2 {k l : IntKind} {a b c d : Int} (h : a = b) (h' : c = d) : Ending.returned (.tuple #[.int k a, .int l c]) = .returned (.tuple #[.int k b, .int l d]) := by rw [h, h']

theorem mod_nat {tn : Int} {n : Nat} (hn : 1 ≤ n) : ∃ i : Nat, tn % (n : Int) = i ∧ i < n := by
  have h1 := Int.emod_nonneg tn (by omega : (n : Int) ≠ 0)
  have h2 := Int.emod_lt_of_pos tn (by omega : 0 < (n : Int))
  exact ⟨(tn % n).toNat, by omega, by omega⟩

end Go.Proofs.YtnbngcagnchkdaaDoor

/-! Plain laws on words as rows of bits: a field's value, a word with a value in a field, bit by bit and at once. No program is named here. -/
namespace Go.Proofs.YtnbngcagnchkdaaDoor

def W64 : Nat := 18446744073709551616
theorem W64_eq : W64 = 2 ^ 64 := by decide

def fget (w f m : Nat) : Nat := w / 2 ^ f % 2 ^ m
def fset (w f m v : Nat) : Nat := 2 ^ f * (2 ^ m * (w / 2 ^ (f + m)) + v) + w % 2 ^ f
def fwith (w i : Nat) (b : Bool) : Nat := if w.testBit i = b then w else w ^^^ 2 ^ i

theorem fget_bit (w f m j : Nat) : (fget w f m).testBit j = (decide (j < m) && w.testBit (f + j)) := by
  unfold fget
  rw [Nat.testBit_mod_two_pow, Nat.testBit_div_two_pow, Nat.add_comm]

theorem fset_bit {w f m v : Nat} (hv : v < 2 ^ m) (j : Nat) : (fset w f m v).testBit j = if j < f then w.testBit j else if j < f + m then v.testBit (j - f) else w.testBit j := by
  unfold fset
  rw [Nat.testBit_two_pow_mul_add _ (Nat.mod_lt _ (Nat.two_pow_pos f))]
  by_cases h : j < f
  · rw [if_pos h, if_pos h, Nat.testBit_mod_two_pow]; simp [h]
  · rw [if_neg h, if_neg h, Nat.testBit_two_pow_mul_add _ hv]
    by_cases h2 : j < f + m
    · rw [if_pos (by omega), if_pos h2]
    · rw [if_neg (by omega), if_neg h2, Nat.testBit_div_two_pow]
      congr 1; omega

theorem fwith_bit (w i : Nat) (b : Bool) (j : Nat) : (fwith w i b).testBit j = if j = i then b else w.testBit j := by
  unfold fwith
  by_cases h : w.testBit i = b
  · rw [if_pos h]
    by_cases hj : j = i
    · rw [if_pos hj, hj, h]
    · rw [if_neg hj]
  · rw [if_neg h, Nat.testBit_xor, Nat.testBit_two_pow]
    by_cases hj : j = i
    · subst hj
      rw [if_pos rfl]
      cases hb : w.testBit j <;> cases b <;> simp_all
    · have hij : ¬ i = j := fun e => hj e.symm
      rw [if_neg hj]
      simp [hij]

theorem fwith_lt {w i : Nat} (b : Bool) (hw : w < 2 ^ 64) (hi : i < 64) : fwith w i b < 2 ^ 64 := by
  refine Nat.lt_pow_two_of_testBit _ fun j hj => ?_
  rw [fwith_bit, if_neg (by omega)]
  exact Nat.testBit_lt_two_pow (Nat.lt_of_lt_of_le hw (Nat.pow_le_pow_right (by decide) hj))

theorem bit_high {w j : Nat} (hw : w < 2 ^ 64) (hj : 64 ≤ j) : w.testBit j = false :=
  Nat.testBit_lt_two_pow (Nat.lt_of_lt_of_le hw (Nat.pow_le_pow_right (by decide) hj))
theorem bit_over {w m j : Nat} (hw : w < 2 ^ m) (hj : m ≤ j) : w.testBit j = false :=
  Nat.testBit_lt_two_pow (Nat.lt_of_lt_of_le hw (Nat.pow_le_pow_right (by decide) hj))

theorem fget_lt (w f m : Nat) : fget w f m < 2 ^ m := Nat.mod_lt _ (Nat.two_pow_pos m)
theorem fget_64 {w f m : Nat} (hm : m ≤ 64) : fget w f m < 2 ^ 64 := Nat.lt_of_lt_of_le (fget_lt w f m) (Nat.pow_le_pow_right (by decide) hm)
theorem fset_64 {w f m v : Nat} (hw : w < 2 ^ 64) (hv : v < 2 ^ m) (h : f + m ≤ 64) : fset w f m v < 2 ^ 64 := by
  refine Nat.lt_pow_two_of_testBit _ fun j hj => ?_
  rw [fset_bit hv, if_neg (by omega), if_neg (by omega)]
  exact bit_high hw hj

/-! ### Bit by bit -/
theorem fget_zero (w f : Nat) : fget w f 0 = 0 := by unfold fget; rw [Nat.pow_zero, Nat.mod_one]
theorem fget_step (w f k : Nat) : fwith (fget w f k) k (w.testBit (f + k)) = fget w f (k + 1) := by
  refine Nat.eq_of_testBit_eq fun j => ?_
  rw [fwith_bit, fget_bit, fget_bit]
  by_cases h : j = k
  · subst h; simp
  · rw [if_neg h]
    congr 1
    rw [decide_eq_decide]; omega
theorem fset_zero (w f : Nat) : fset w f 0 0 = w := by
  refine Nat.eq_of_testBit_eq fun j => ?_
  rw [fset_bit (by decide)]
  by_cases h : j < f
  · rw [if_pos h]
  · rw [if_neg h, if_neg (by omega)]
theorem fset_step (w f k v : Nat) : fwith (fset w f k (v % 2 ^ k)) (f + k) (v.testBit k) = fset w f (k + 1) (v % 2 ^ (k + 1)) := by
  refine Nat.eq_of_testBit_eq fun j => ?_
  rw [fwith_bit, fset_bit (Nat.mod_lt _ (Nat.two_pow_pos k)), fset_bit (Nat.mod_lt _ (Nat.two_pow_pos (k + 1)))]
  by_cases h : j = f + k
  · subst h
    rw [if_pos rfl, if_neg (by omega), if_pos (by omega), Nat.testBit_mod_two_pow]
    simp
  · rw [if_neg h]
    by_cases h1 : j < f
    · rw [if_pos h1, if_pos h1]
    · rw [if_neg h1, if_neg h1]
      by_cases h2 : j < f + k
      · rw [if_pos h2, if_pos (by omega), Nat.testBit_mod_two_pow, Nat.testBit_mod_two_pow]
        congr 1
        rw [decide_eq_decide]; omega
      · rw [if_neg h2, if_neg (by omega)]

/-! ### Shifts and masks at once -/
theorem mask_eq {m : Nat} (h : m ≤ 64) : (2 ^ 64 - 1) / 2 ^ (64 - m) = 2 ^ m - 1 := by
  refine Nat.eq_of_testBit_eq fun j => ?_
  rw [Nat.testBit_div_two_pow, Nat.testBit_two_pow_sub_one, Nat.testBit_two_pow_sub_one, decide_eq_decide]
  omega
theorem get_code {w f m : Nat} (h : m ≤ 64) : (w / 2 ^ f) &&& ((2 ^ 64 - 1) / 2 ^ (64 - m)) = fget w f m := by
  rw [mask_eq h, Nat.and_two_pow_sub_one_eq_mod]; rfl
theorem mask_lt {m f : Nat} (h : f + m ≤ 64) : (2 ^ m - 1) * 2 ^ f < 2 ^ 64 := by
  have h1 : (2 ^ m - 1) * 2 ^ f < 2 ^ m * 2 ^ f := Nat.mul_lt_mul_of_pos_right (by have := Nat.two_pow_pos m; omega) (Nat.two_pow_pos f)
  rw [← Nat.pow_add] at h1
  exact Nat.lt_of_lt_of_le h1 (Nat.pow_le_pow_right (by decide) (by omega))
theorem val_lt {m f v : Nat} (h : f + m ≤ 64) (hv : v < 2 ^ m) : v * 2 ^ f < 2 ^ 64 := by
  have h1 : v * 2 ^ f < 2 ^ m * 2 ^ f := Nat.mul_lt_mul_of_pos_right hv (Nat.two_pow_pos f)
  rw [← Nat.pow_add] at h1
  exact Nat.lt_of_lt_of_le h1 (Nat.pow_le_pow_right (by decide) (by omega))
theorem set_code {w f m v : Nat} (hw : w < 2 ^ 64) (h : f + m ≤ 64) (hv : v < 2 ^ m) :
    (w &&& (2 ^ 64 - ((2 ^ m - 1) * 2 ^ f + 1))) ||| v * 2 ^ f = fset w f m v := by
  refine Nat.eq_of_testBit_eq fun j => ?_
  rw [fset_bit hv, Nat.testBit_or, Nat.testBit_and, Nat.testBit_two_pow_sub_succ (mask_lt h), Nat.testBit_mul_two_pow, Nat.testBit_mul_two_pow, Nat.testBit_two_pow_sub_one]
  by_cases h1 : j < f
  · rw [if_pos h1]
    have : ¬ f ≤ j := by omega
    have h3 : j < 64 := by omega
    simp [this, h3]
  · rw [if_neg h1]
    have h2 : f ≤ j := by omega
    by_cases h3 : j < f + m
    · rw [if_pos h3]
      have h4 : j - f < m := by omega
      simp [h2, h4]
    · rw [if_neg h3]
      have h4 : ¬ j - f < m := by omega
      rw [bit_over hv (by omega)]
      by_cases h5 : j < 64
      · simp [h2, h4, h5]
      · rw [bit_high hw (by omega)]; simp

/-! ### Fields one by one, and together -/
theorem fget_fset {w f m v : Nat} (hv : v < 2 ^ m) : fget (fset w f m v) f m = v := by
  refine Nat.eq_of_testBit_eq fun j => ?_
  rw [fget_bit, fset_bit hv]
  by_cases h : j < m
  · rw [if_neg (by omega), if_pos (by omega), Nat.add_sub_cancel_left]; simp [h]
  · rw [bit_over (j := j) hv (by omega)]; simp [h]
theorem fget_apart {w f m v g n : Nat} (hv : v < 2 ^ m) (h : f + m ≤ g ∨ g + n ≤ f) : fget (fset w f m v) g n = fget w g n := by
  refine Nat.eq_of_testBit_eq fun j => ?_
  rw [fget_bit, fget_bit, fset_bit hv]
  by_cases hj : j < n
  · by_cases h1 : g + j < f
    · rw [if_pos h1]
    · rw [if_neg h1, if_neg (by omega)]
  · simp [hj]
theorem fset_twice {w f m v u : Nat} (hv : v < 2 ^ m) (hu : u < 2 ^ m) : fset (fset w f m v) f m u = fset w f m u := by
  refine Nat.eq_of_testBit_eq fun j => ?_
  rw [fset_bit hu, fset_bit hu, fset_bit hv]
  by_cases h1 : j < f
  · simp [h1]
  · by_cases h2 : j < f + m <;> simp [h1, h2]
theorem fset_swap {w f m v g n u : Nat} (hv : v < 2 ^ m) (hu : u < 2 ^ n) (h : f + m ≤ g ∨ g + n ≤ f) : fset (fset w f m v) g n u = fset (fset w g n u) f m v := by
  refine Nat.eq_of_testBit_eq fun j => ?_
  rw [fset_bit hu, fset_bit hv, fset_bit hv, fset_bit hu]
  by_cases h1 : j < f <;> by_cases h2 : j < f + m <;> by_cases h3 : j < g <;> by_cases h4 : j < g + n <;> simp [h1, h2, h3, h4] <;> omega
theorem fset_top {w f m v : Nat} (hw : w < 2 ^ f) : fset w f m v = w + 2 ^ f * v := by
  unfold fset
  rw [Nat.div_eq_of_lt (Nat.lt_of_lt_of_le hw (Nat.pow_le_pow_right (by decide) (by omega))), Nat.mod_eq_of_lt hw]
  rw [Nat.mul_zero, Nat.zero_add, Nat.add_comm]

/-! ### All bits -/
theorem fits_iff {v m : Nat} (hv : v < 2 ^ 64) : v < 2 ^ m ↔ ∀ i, m ≤ i → i < 64 → v.testBit i = false := by
  constructor
  · intro h i hi _; exact bit_over h hi
  · intro h
    refine Nat.lt_pow_two_of_testBit _ fun i hi => ?_
    by_cases h6 : i < 64
    · exact h i hi h6
    · exact bit_high hv (by omega)

end Go.Proofs.YtnbngcagnchkdaaDoor

/-! Plain Lean on rows of widths: what field.Get, Set, Pack and Unpack compute, and what of it leads where. No program is named here. -/
namespace Go.Proofs.YtnbngcagnchkdaaDoor

def mayB (f m : Int) : Bool := decide (0 ≤ f ∧ 1 ≤ m ∧ m ≤ 64 ∧ f ≤ 64 - m)
def fgetI (w f m : Int) : Int := (fget w.toNat f.toNat m.toNat : Nat)
def fsetI (w f m v : Int) : Int := (fset w.toNat f.toNat m.toNat v.toNat : Nat)
def fitsB (v m : Int) : Bool := decide (v.toNat < 2 ^ m.toNat)
def gget (w f m : Int) : Int × Int := if mayB f m = true then (fgetI w f m, 0) else (0, 2)
def gset (w f m v : Int) : Int × Int := if mayB f m = true then (if fitsB v m = true then (fsetI w f m v, 0) else (0, 4)) else (0, 2)

theorem mayB_iff {f m : Int} : mayB f m = true ↔ (0 ≤ f ∧ 1 ≤ m ∧ m ≤ 64 ∧ f ≤ 64 - m) := by unfold mayB; simp
theorem mayB_no {f m : Int} : mayB f m = false ↔ ¬ (0 ≤ f ∧ 1 ≤ m ∧ m ≤ 64 ∧ f ≤ 64 - m) := by unfold mayB; simp
theorem mayB_nat {f m : Int} (h : mayB f m = true) : ∃ a b : Nat, f = a ∧ m = b ∧ 1 ≤ b ∧ b ≤ 64 ∧ a + b ≤ 64 := by
  rw [mayB_iff] at h
  exact ⟨f.toNat, m.toNat, by omega, by omega, by omega, by omega, by omega⟩

theorem lt64 {w : Int} (h0 : 0 ≤ w) (h : w < 18446744073709551616) : w.toNat < 2 ^ 64 := by
  have : (2 : Nat) ^ 64 = 18446744073709551616 := by decide
  omega
theorem of64 {n : Nat} (h : n < 2 ^ 64) : (0 : Int) ≤ n ∧ (n : Int) < 18446744073709551616 := by
  have : (2 : Nat) ^ 64 = 18446744073709551616 := by decide
  omega

theorem fgetI_64 {w f m : Int} (h : mayB f m = true) : 0 ≤ fgetI w f m ∧ fgetI w f m < 18446744073709551616 := by
  rw [mayB_iff] at h
  exact of64 (fget_64 (by omega))
theorem gget_64 {w f m p q : Int} (h : gget w f m = (p, q)) : 0 ≤ p ∧ p < 18446744073709551616 := by
  unfold gget at h
  split at h
  · rename_i hm; cases h; exact fgetI_64 hm
  · cases h; exact ⟨by decide, by decide⟩
theorem fsetI_64 {w f m v : Int} (h0 : 0 ≤ w) (h1 : w < 18446744073709551616) (h : mayB f m = true) (hv : fitsB v m = true) : 0 ≤ fsetI w f m v ∧ fsetI w f m v < 18446744073709551616 := by
  rw [mayB_iff] at h
  unfold fitsB at hv
  exact of64 (fset_64 (lt64 h0 h1) (by simpa using hv) (by omega))
theorem gset_64 {w f m v p q : Int} (h0 : 0 ≤ w) (h1 : w < 18446744073709551616) (h : gset w f m v = (p, q)) : 0 ≤ p ∧ p < 18446744073709551616 := by
  unfold gset at h
  split at h
  · rename_i hm
    split at h
    · rename_i hf; cases h; exact fsetI_64 h0 h1 hm hf
    · cases h; exact ⟨by decide, by decide⟩
  · cases h; exact ⟨by decide, by decide⟩
theorem gget_err {w f m p q : Int} (h : gget w f m = (p, q)) : q = 0 ∨ q = 2 := by
  unfold gget at h; split at h <;> cases h <;> simp
theorem gset_err {w f m v p q : Int} (h : gset w f m v = (p, q)) : q = 0 ∨ q = 2 ∨ q = 4 := by
  unfold gset at h; split at h
  · split at h <;> cases h <;> simp
  · cases h; simp
theorem gget_ok {w f m p : Int} (h : gget w f m = (p, 0)) : mayB f m = true ∧ p = fgetI w f m := by
  unfold gget at h; split at h
  · cases h; exact ⟨‹_›, rfl⟩
  · cases h
theorem gset_ok {w f m v p : Int} (h : gset w f m v = (p, 0)) : mayB f m = true ∧ fitsB v m = true ∧ p = fsetI w f m v := by
  unfold gset at h; split at h
  · split at h
    · cases h; exact ⟨‹_›, ‹_›, rfl⟩
    · cases h
  · cases h
theorem gset_bad {w f m v p q : Int} (h : gset w f m v = (p, q)) (hq : q ≠ 0) : p = 0 := by
  unfold gset at h; split at h
  · split at h
    · cases h; exact absurd rfl hq
    · cases h; rfl
  · cases h; rfl

/-! ### Rows of widths -/
def fr (xs : List Int) : Nat → Int
  | 0 => 0
  | i + 1 => fr xs i + nth xs i
def wokB (xs : List Int) : Bool := decide (0 < xs.length ∧ ∀ i, i < xs.length → mayB (fr xs i) (nth xs i) = true)

structure Wok (xs : List Int) : Prop where
  pos : 0 < xs.length
  may : ∀ i, i < xs.length → mayB (fr xs i) (nth xs i) = true
theorem wokB_iff {xs : List Int} : wokB xs = true ↔ Wok xs := by
  unfold wokB
  simp only [decide_eq_true_eq]
  exact ⟨fun h => ⟨h.1, h.2⟩, fun h => ⟨h.pos, h.may⟩⟩
theorem Wok.fr0 {xs : List Int} (h : Wok xs) : ∀ i, i ≤ xs.length → 0 ≤ fr xs i ∧ fr xs i ≤ 64
  | 0, _ => ⟨Int.le_refl _, by unfold fr; decide⟩
  | i + 1, hi => by
    have := mayB_iff.1 (h.may i (by omega))
    unfold fr; omega
theorem Wok.at {xs : List Int} (h : Wok xs) (i : Nat) (hi : i < xs.length) : ∃ a b : Nat, fr xs i = a ∧ nth xs i = b ∧ 1 ≤ b ∧ a + b ≤ 64 ∧ fr xs (i + 1) = ((a + b : Nat) : Int) := by
  obtain ⟨a, b, h1, h2, h3, _, h5⟩ := mayB_nat (h.may i hi)
  exact ⟨a, b, h1, h2, h3, h5, by show fr xs i + nth xs i = _; rw [h1, h2]; omega⟩
theorem Wok.mono {xs : List Int} (h : Wok xs) (i : Nat) : ∀ k, i ≤ k → k ≤ xs.length → fr xs i ≤ fr xs k
  | 0, h1, _ => by obtain rfl : i = 0 := by omega
                   exact Int.le_refl _
  | k + 1, h1, h2 => by
    rcases Nat.lt_or_ge i (k + 1) with c | c
    · have := h.mono i k (by omega) (by omega)
      obtain ⟨a, b, e1, e2, e3, e4, e5⟩ := h.at k (by omega)
      omega
    · obtain rfl : i = k + 1 := by omega
      exact Int.le_refl _
/-- Each width takes at least one bit, so there are 64 widths at most. -/
theorem Wok.many {xs : List Int} (h : Wok xs) : ∀ k, k ≤ xs.length → (k : Int) ≤ fr xs k
  | 0, _ => by unfold fr; decide
  | k + 1, hk => by
    have := h.many k (by omega)
    obtain ⟨a, b, e1, e2, e3, e4, e5⟩ := h.at k (by omega)
    omega
theorem Wok.le64 {xs : List Int} (h : Wok xs) : xs.length ≤ 64 := by
  have := h.many xs.length (Nat.le_refl _); have := h.fr0 xs.length (Nat.le_refl _); omega

theorem first_bad (p : Nat → Bool) : ∀ n, (∀ i, i < n → p i = true) ∨ ∃ k, k < n ∧ (∀ i, i < k → p i = true) ∧ p k = false
  | 0 => .inl fun i hi => absurd hi (Nat.not_lt_zero _)
  | n + 1 => by
    rcases first_bad p n with h | ⟨k, hk, h1, h2⟩
    · cases hp : p n
      · exact .inr ⟨n, by omega, h, hp⟩
      · refine .inl fun i hi => ?_
        rcases Nat.lt_or_ge i n with c | c
        · exact h i c
        · obtain rfl : i = n := by omega
          exact hp
    · exact .inr ⟨k, by omega, h1, h2⟩

/-- What field.all answers. -/
def allR (xs : List Int) : Int × Int := if wokB xs = true then (fr xs xs.length, 0) else (0, 2)

def pk (xs vs : List Int) : Nat → Nat
  | 0 => 0
  | i + 1 => pk xs vs i + 2 ^ (fr xs i).toNat * (nth vs i).toNat

theorem pk_lt {xs vs : List Int} (h : Wok xs) : ∀ k, k ≤ xs.length → (∀ i, i < k → fitsB (nth vs i) (nth xs i) = true) → pk xs vs k < 2 ^ (fr xs k).toNat
  | 0, _, _ => by show 0 < _; exact Nat.two_pow_pos _
  | k + 1, hk, hv => by
    have ih := pk_lt h k (by omega) fun i hi => hv i (by omega)
    have hf := hv k (by omega)
    obtain ⟨a, b, e1, e2, e3, e4, e5⟩ := h.at k (by omega)
    unfold fitsB at hf
    rw [e2] at hf
    rw [e1] at ih
    simp at hf ih
    have : (nth vs k).toNat + 1 ≤ 2 ^ b := hf
    have h2 := Nat.mul_le_mul_left (2 ^ a) this
    rw [← Nat.pow_add, Nat.mul_add, Nat.mul_one] at h2
    unfold pk
    rw [e5, e1]
    simp only [Int.toNat_natCast]
    omega
theorem pk_64 {xs vs : List Int} (h : Wok xs) (k : Nat) (hk : k ≤ xs.length) (hv : ∀ i, i < k → fitsB (nth vs i) (nth xs i) = true) : pk xs vs k < 2 ^ 64 :=
  Nat.lt_of_lt_of_le (pk_lt h k hk hv) (Nat.pow_le_pow_right (by decide) (by have := h.fr0 k hk; omega))
theorem pk_fset {xs vs : List Int} (h : Wok xs) (k : Nat) (hk : k < xs.length) (hv : ∀ i, i < k → fitsB (nth vs i) (nth xs i) = true) :
    fset (pk xs vs k) (fr xs k).toNat (nth xs k).toNat (nth vs k).toNat = pk xs vs (k + 1) := fset_top (pk_lt h k (by omega) hv)
theorem pk_step {xs vs : List Int} (h : Wok xs) (k : Nat) (hk : k < xs.length) (hv : ∀ i, i < k → fitsB (nth vs i) (nth xs i) = true) :
    fsetI (pk xs vs k : Nat) (fr xs k) (nth xs k) (nth vs k) = (pk xs vs (k + 1) : Nat) := by
  unfold fsetI
  rw [Int.toNat_natCast, pk_fset h k hk hv]
theorem gset_pk {xs vs : List Int} (h : Wok xs) (k : Nat) (hk : k < xs.length) (hv : ∀ i, i ≤ k → fitsB (nth vs i) (nth xs i) = true) :
    gset (pk xs vs k : Nat) (fr xs k) (nth xs k) (nth vs k) = (((pk xs vs (k + 1) : Nat) : Int), 0) := by
  unfold gset
  rw [if_pos (h.may k hk), if_pos (hv k (Nat.le_refl _)), pk_step h k hk fun i hi => hv i (by omega)]
theorem gset_pk_no {xs vs : List Int} (h : Wok xs) (k : Nat) (hk : k < xs.length) (hv : fitsB (nth vs k) (nth xs k) = false) (w : Int) :
    gset w (fr xs k) (nth xs k) (nth vs k) = (0, 4) := by
  unfold gset
  rw [if_pos (h.may k hk), if_neg (by rw [hv]; decide)]
theorem gget_at {xs : List Int} (h : Wok xs) (k : Nat) (hk : k < xs.length) (w : Int) : gget w (fr xs k) (nth xs k) = (fgetI w (fr xs k) (nth xs k), 0) := by
  unfold gget
  rw [if_pos (h.may k hk)]

def allFits (xs vs : List Int) : Bool := decide (∀ i, i < xs.length → fitsB (nth vs i) (nth xs i) = true)
def packR (xs vs : List Int) : Int × Int := if wokB xs = true ∧ vs.length = xs.length then (if allFits xs vs = true then (((pk xs vs xs.length : Nat) : Int), 0) else (0, 4)) else (0, 2)
def unp (xs : List Int) (w : Int) (k : Nat) : List Int := (List.range k).map fun i => fgetI w (fr xs i) (nth xs i)
def unpackR (xs : List Int) (w : Int) : List Int × Int := if wokB xs = true then (if fitsB w (fr xs xs.length) = true then (unp xs w xs.length, 0) else ([], 5)) else ([], 2)

theorem unp_len (xs : List Int) (w : Int) (k : Nat) : (unp xs w k).length = k := by unfold unp; simp
theorem unp_nth (xs : List Int) (w : Int) (k i : Nat) (hi : i < k) : nth (unp xs w k) i = fgetI w (fr xs i) (nth xs i) := by
  unfold unp nth
  simp [List.getD, hi]
theorem unp_succ (xs : List Int) (w : Int) (k : Nat) : unp xs w (k + 1) = unp xs w k ++ [fgetI w (fr xs k) (nth xs k)] := by
  unfold unp
  rw [List.range_succ, List.map_append]; rfl
theorem unpackR_64 {xs : List Int} {w : Int} {l : List Int} {q : Int} (h : unpackR xs w = (l, q)) : ∀ n ∈ l, 0 ≤ n ∧ n < 18446744073709551616 := by
  unfold unpackR at h
  split at h
  · rename_i hw
    split at h
    · cases h
      intro n hn
      unfold unp at hn
      simp only [List.mem_map, List.mem_range] at hn
      obtain ⟨i, hi, rfl⟩ := hn
      exact fgetI_64 ((wokB_iff.1 hw).may i hi)
    · cases h; simp
  · cases h; simp
theorem packR_64 {xs vs : List Int} {p q : Int} (h : packR xs vs = (p, q)) : 0 ≤ p ∧ p < 18446744073709551616 := by
  unfold packR at h
  split at h
  · rename_i hw
    split at h
    · rename_i hf
      cases h
      unfold allFits at hf
      exact of64 (pk_64 (wokB_iff.1 hw.1) _ (Nat.le_refl _) (by simpa using hf))
    · cases h; exact ⟨by decide, by decide⟩
  · cases h; exact ⟨by decide, by decide⟩
theorem fitsB_fget {w f m : Int} : fitsB (fgetI w f m) m = true := by
  unfold fitsB fgetI
  simp only [decide_eq_true_eq]
  exact fget_lt _ _ _

/-! ### There and back -/

theorem fget_pk {xs vs : List Int} (h : Wok xs) (i : Nat) (hi : i < xs.length) (hv0 : ∀ i, i < xs.length → fitsB (nth vs i) (nth xs i) = true) :
    ∀ k, i < k → k ≤ xs.length → fget (pk xs vs k) (fr xs i).toNat (nth xs i).toNat = (nth vs i).toNat
  | 0, h1, _ => absurd h1 (Nat.not_lt_zero _)
  | k + 1, h1, h2 => by
    have hf := hv0 k (by omega)
    unfold fitsB at hf
    simp only [decide_eq_true_eq] at hf
    rw [← pk_fset h k (by omega) fun j hj => hv0 j (by omega)]
    rcases Nat.lt_or_ge i k with c | c
    · have := h.mono (i + 1) k (by omega) (by omega)
      obtain ⟨a, b, e1, e2, e3, e4, e5⟩ := h.at i hi
      rw [fget_apart hf (.inr (by omega))]
      exact fget_pk h i hi hv0 k c (by omega)
    · obtain rfl : i = k := by omega
      exact fget_fset hf
theorem unp_pk {xs vs : List Int} (h : Wok xs) (hl : vs.length = xs.length) (hv : ∀ i, i < xs.length → fitsB (nth vs i) (nth xs i) = true) (hn : ∀ n ∈ vs, 0 ≤ n) :
    unp xs (pk xs vs xs.length : Nat) xs.length = vs := by
  refine nth_ext (by rw [unp_len, hl]) fun i hi => ?_
  rw [unp_len] at hi
  rw [unp_nth _ _ _ _ hi]
  unfold fgetI
  rw [Int.toNat_natCast, fget_pk h i hi hv xs.length hi (Nat.le_refl _)]
  have := hn _ (nth_mem (xs := vs) (k := i) (by omega))
  omega
theorem pk_unp {xs : List Int} (h : Wok xs) (w : Int) : ∀ k, k ≤ xs.length → pk xs (unp xs w xs.length) k = w.toNat % 2 ^ (fr xs k).toNat
  | 0, _ => by show 0 = _; unfold fr; simp [Nat.mod_one]
  | k + 1, hk => by
    unfold pk
    rw [pk_unp h w k (by omega), unp_nth _ _ _ _ (by omega)]
    obtain ⟨a, b, e1, e2, e3, e4, e5⟩ := h.at k (by omega)
    rw [e5, e1]
    unfold fgetI fget
    rw [e2]
    simp only [Int.toNat_natCast]
    rw [Nat.pow_add, Nat.mod_mul]

theorem unpack_pack {xs vs : List Int} {a : Int} (h : packR xs vs = (a, 0)) (hn : ∀ n ∈ vs, 0 ≤ n) : unpackR xs a = (vs, 0) := by
  unfold packR at h
  split at h
  · rename_i hw
    split at h
    · rename_i hf
      cases h
      unfold allFits at hf
      have hf' : ∀ i, i < xs.length → fitsB (nth vs i) (nth xs i) = true := by simpa using hf
      have wk := wokB_iff.1 hw.1
      unfold unpackR
      rw [if_pos hw.1, unp_pk wk hw.2 hf' hn, if_pos]
      unfold fitsB
      simp only [decide_eq_true_eq, Int.toNat_natCast]
      exact pk_lt wk _ (Nat.le_refl _) hf'
    · cases h
  · cases h
theorem pack_unpack {xs l : List Int} {w : Int} (h : unpackR xs w = (l, 0)) (h0 : 0 ≤ w) : packR xs l = (w, 0) := by
  unfold unpackR at h
  split at h
  · rename_i hw
    split at h
    · rename_i hf
      cases h
      have wk := wokB_iff.1 hw
      unfold packR
      rw [if_pos ⟨hw, unp_len _ _ _⟩, if_pos]
      · rw [pk_unp wk w _ (Nat.le_refl _)]
        unfold fitsB at hf
        simp only [decide_eq_true_eq] at hf
        rw [Nat.mod_eq_of_lt hf, Int.toNat_of_nonneg h0]
      · unfold allFits
        simp only [decide_eq_true_eq]
        intro i hi
        rw [unp_nth _ _ _ _ hi]
        exact fitsB_fget
    · cases h
  · cases h
theorem unpackR_len {xs l : List Int} {w : Int} (h : unpackR xs w = (l, 0)) : l = unp xs w xs.length ∧ Wok xs ∧ fitsB w (fr xs xs.length) = true := by
  unfold unpackR at h
  split at h
  · split at h
    · cases h; exact ⟨rfl, wokB_iff.1 ‹_›, ‹_›⟩
    · cases h
  · cases h
theorem unpackR_bad {xs l : List Int} {w q : Int} (h : unpackR xs w = (l, q)) (hq : q ≠ 0) : l = [] := by
  unfold unpackR at h
  split at h
  · split at h
    · cases h; exact absurd rfl hq
    · cases h; rfl
  · cases h; rfl

/-! ### All fields set to 0 -/
def zs (xs : List Int) (w : Int) : Nat → Nat
  | 0 => w.toNat
  | k + 1 => fset (zs xs w k) (fr xs k).toNat (nth xs k).toNat 0
theorem zs_bit {xs : List Int} (h : Wok xs) (w : Int) : ∀ k, k ≤ xs.length → ∀ j, (zs xs w k).testBit j = if (j : Int) < fr xs k then false else w.toNat.testBit j
  | 0, _, j => by unfold zs fr; rw [if_neg (by omega)]
  | k + 1, hk, j => by
    unfold zs
    obtain ⟨a, b, e1, e2, e3, e4, e5⟩ := h.at k (by omega)
    rw [fset_bit (Nat.two_pow_pos _), zs_bit h w k (by omega), e5, e1, e2]
    simp only [Int.toNat_natCast]
    by_cases h1 : j < a
    · rw [if_pos h1, if_pos (by omega), if_pos (by omega)]
    · rw [if_neg h1]
      by_cases h2 : j < a + b
      · rw [if_pos h2, if_pos (by omega)]; simp
      · rw [if_neg h2, if_neg (by omega), if_neg (by omega)]
theorem zs_64 {xs : List Int} (h : Wok xs) {w : Int} (h0 : 0 ≤ w) (h1 : w < 18446744073709551616) (k : Nat) (hk : k ≤ xs.length) : zs xs w k < 2 ^ 64 := by
  refine Nat.lt_pow_two_of_testBit _ fun j hj => ?_
  rw [zs_bit h w k hk, if_neg (by have := h.fr0 k hk; omega)]
  exact bit_high (lt64 h0 h1) hj
theorem zs_end {xs : List Int} (h : Wok xs) {w : Int} (hf : fitsB w (fr xs xs.length) = true) : zs xs w xs.length = 0 := by
  refine Nat.eq_of_testBit_eq fun j => ?_
  rw [zs_bit h w _ (Nat.le_refl _)]
  unfold fitsB at hf
  simp only [decide_eq_true_eq] at hf
  by_cases hj : (j : Int) < fr xs xs.length
  · rw [if_pos hj]; simp
  · rw [if_neg hj, bit_over hf (by omega)]; simp
theorem gset_zs {xs : List Int} (h : Wok xs) (w : Int) (k : Nat) (hk : k < xs.length) : gset (zs xs w k : Nat) (fr xs k) (nth xs k) 0 = (((zs xs w (k + 1) : Nat) : Int), 0) := by
  unfold gset
  rw [if_pos (h.may k hk), if_pos (by unfold fitsB; simp; exact Nat.two_pow_pos _)]
  unfold fsetI
  simp only [Int.toNat_natCast]
  rfl

end Go.Proofs.YtnbngcagnchkdaaDoor

/-! Plain Lean on heads as words: what head.Put, Get, Need and Field compute. No program is named here. -/
namespace Go.Proofs.YtnbngcagnchkdaaDoor

structure Hd where
  c : Int
  r : Int
  w : Int

/-- 16, 16, 16, 8 and 8 bits. -/
def hdws : List Int := [16, 16, 16, 8, 8]
theorem hdws_ok : Wok hdws := wokB_iff.1 (by decide)

def hdok (h : Hd) : Prop := (0 ≤ h.c ∧ h.c < 8) ∧ 0 ≤ h.r ∧ 0 ≤ h.w ∧ h.r ≤ 63 ∧ h.w ≤ 63 - h.r
instance (h : Hd) : Decidable (hdok h) := by unfold hdok; infer_instance
def hdword (h : Hd) : Int := h.w * 65536 + h.r * 4294967296 + h.c * 281474976710656 + 199 * 72057594037927936
def hdput (h : Hd) : Int × Int := if hdok h then (hdword h, 0) else (0, 2)
def hdraw (u : Int) : Hd := ⟨u / 281474976710656 % 256, u / 4294967296 % 65536, u / 65536 % 65536⟩
def hdnil : Hd := ⟨0, 0, 0⟩
def hdis (u : Int) : Prop := u % 65536 = 0 ∧ u / 72057594037927936 = 199 ∧ hdok (hdraw u)
instance (u : Int) : Decidable (hdis u) := by unfold hdis; infer_instance
def hdget (u : Int) : Hd × Int := if hdis u then (hdraw u, 0) else (hdnil, 5)
def hdneed (h : Hd) : Int × Int := if hdok h then (h.r + h.w + 1, 0) else (0, 2)
def hdfield (h : Hd) (i : Int) : Bool × Int := if hdok h then (if i < 0 ∨ h.r + h.w ≤ i then (false, 110) else (decide (i < h.r), 0)) else (false, 2)

theorem hdput_yes {h : Hd} (k : hdok h) : hdput h = (hdword h, 0) := by unfold hdput; rw [if_pos k]
theorem hdput_no {h : Hd} (k : ¬ hdok h) : hdput h = (0, 2) := by unfold hdput; rw [if_neg k]
theorem hdget_yes {u : Int} (k : hdis u) : hdget u = (hdraw u, 0) := by unfold hdget; rw [if_pos k]
theorem hdget_no {u : Int} (k : ¬ hdis u) : hdget u = (hdnil, 5) := by unfold hdget; rw [if_neg k]

/-- The words of the parts, put together by field.Pack. -/
theorem hdput_pack {h : Hd} (k : hdok h) : packR hdws [0, h.w, h.r, h.c, 199] = (hdword h, 0) := by
  obtain ⟨c, r, w⟩ := h
  obtain ⟨⟨h1, h2⟩, h3, h4, h5, h6⟩ := k
  simp only at h1 h2 h3 h4 h5 h6
  unfold packR
  rw [if_pos ⟨wokB_iff.2 hdws_ok, rfl⟩, if_pos]
  · show (((pk hdws [0, w, r, c, 199] 5 : Nat) : Int), (0 : Int)) = (w * 65536 + r * 4294967296 + c * 281474976710656 + 199 * 72057594037927936, 0)
    have e : pk hdws [0, w, r, c, 199] 5 = 0 + 2 ^ 0 * 0 + 2 ^ 16 * w.toNat + 2 ^ 32 * r.toNat + 2 ^ 48 * c.toNat + 2 ^ 56 * 199 := rfl
    rw [e]
    congr 1
    omega
  · unfold allFits
    simp only [decide_eq_true_eq]
    intro k hk
    have hk3 : k < 5 := hk
    unfold fitsB
    simp only [decide_eq_true_eq]
    match k, hk3 with
    | 0, _ => show (0 : Int).toNat < 2 ^ 16; decide
    | 1, _ => show w.toNat < 2 ^ 16; omega
    | 2, _ => show r.toNat < 2 ^ 16; omega
    | 3, _ => show c.toNat < 2 ^ 8; omega
    | 4, _ => show (199 : Int).toNat < 2 ^ 8; decide
theorem hdget_unpack {u : Int} (h0 : 0 ≤ u) (h1 : u < 18446744073709551616) : unpackR hdws u = ([u % 65536, (hdraw u).w, (hdraw u).r, (hdraw u).c, u / 72057594037927936], 0) := by
  unfold unpackR
  rw [if_pos (wokB_iff.2 hdws_ok), if_pos]
  · have e : unp hdws u 5 = [fgetI u 0 16, fgetI u 16 16, fgetI u 32 16, fgetI u 48 8, fgetI u 56 8] := rfl
    show (unp hdws u 5, (0 : Int)) = _
    rw [e]
    obtain ⟨n, rfl⟩ := Int.eq_ofNat_of_zero_le h0
    unfold fgetI fget hdraw
    have a0 : n / 2 ^ (0 : Int).toNat % 2 ^ (16 : Int).toNat = n % 65536 := by show n / 1 % 65536 = _; rw [Nat.div_one]
    have a1 : n / 2 ^ (16 : Int).toNat % 2 ^ (16 : Int).toNat = n / 65536 % 65536 := rfl
    have a2 : n / 2 ^ (32 : Int).toNat % 2 ^ (16 : Int).toNat = n / 4294967296 % 65536 := rfl
    have a3 : n / 2 ^ (48 : Int).toNat % 2 ^ (8 : Int).toNat = n / 281474976710656 % 256 := rfl
    have a4 : n / 2 ^ (56 : Int).toNat % 2 ^ (8 : Int).toNat = n / 72057594037927936 := by
      show n / 72057594037927936 % 256 = _
      omega
    rw [Int.toNat_natCast, a0, a1, a2, a3, a4]
    simp
  · unfold fitsB
    simp only [decide_eq_true_eq]
    show u.toNat < 2 ^ 64
    exact lt64 h0 h1

theorem hdword_64 {h : Hd} (k : hdok h) : 0 ≤ hdword h ∧ hdword h < 18446744073709551616 := by
  obtain ⟨⟨h1, h2⟩, h3, h4, h5, h6⟩ := k
  unfold hdword; omega
theorem hdraw_word {h : Hd} (k : hdok h) : hdraw (hdword h) = h := by
  obtain ⟨c, r, w⟩ := h
  obtain ⟨⟨h1, h2⟩, h3, h4, h5, h6⟩ := k
  simp only at h1 h2 h3 h4 h5 h6
  unfold hdraw hdword
  simp only [Hd.mk.injEq]
  omega
theorem hdget_word {h : Hd} (k : hdok h) : hdget (hdword h) = (h, 0) := by
  rw [hdget_yes, hdraw_word k]
  refine ⟨?_, ?_, by rw [hdraw_word k]; exact k⟩
  · obtain ⟨⟨h1, h2⟩, h3, h4, h5, h6⟩ := k
    unfold hdword; omega
  · obtain ⟨⟨h1, h2⟩, h3, h4, h5, h6⟩ := k
    unfold hdword; omega
theorem hdis_word {u : Int} (k : hdis u) : hdword (hdraw u) = u := by
  obtain ⟨h1, h2, h3⟩ := k
  unfold hdraw hdword
  simp only
  omega
theorem hdword_inj {g h : Hd} (kg : hdok g) (kh : hdok h) (e : hdword g = hdword h) : g = h := by
  rw [← hdraw_word kg, e, hdraw_word kh]

end Go.Proofs.YtnbngcagnchkdaaDoor

/-! Size classes in plain Lean: what class.Check, Of, Round, Waste and the document's answers compute. No program is named here. -/
namespace Go.Proofs.YtnbngcagnchkdaaDoor

def ccheckLoop : Int → List Int → Int
  | _, [] => 0
  | last, x :: r => if x ≤ last then 2 else ccheckLoop x r

/-- class.Check -/
def ccheck (xs : List Int) : Int :=
  if xs.length < 1 ∨ 8 < xs.length ∨ 64 < nth xs (xs.length - 1) then 2 else ccheckLoop 1 xs

theorem ccheckLoop_01 (xs : List Int) : ∀ q, ccheckLoop q xs = 0 ∨ ccheckLoop q xs = 2 := by
  induction xs with
  | nil => intro q; exact .inl rfl
  | cons x r ih => intro q; unfold ccheckLoop; split; exact .inr rfl; exact ih x

theorem ccheck_01 (xs : List Int) : ccheck xs = 0 ∨ ccheck xs = 2 := by
  unfold ccheck; split; exact .inr rfl; exact ccheckLoop_01 _ _

theorem ccheckLoop_ok (xs : List Int) : ∀ q, ccheckLoop q xs = 0 → (∀ i, i < xs.length → q < nth xs i) ∧ ∀ i j, i < j → j < xs.length → nth xs i < nth xs j := by
  induction xs with
  | nil => intro q _; exact ⟨fun i h => absurd h (Nat.not_lt_zero _), fun i j _ h => absurd h (Nat.not_lt_zero _)⟩
  | cons x r ih =>
    intro q h
    unfold ccheckLoop at h
    split at h
    · cases h
    · rename_i hq
      obtain ⟨h1, h2⟩ := ih x h
      constructor
      · intro i hi
        cases i with
        | zero => rw [nth_cons_zero]; omega
        | succ i => rw [nth_cons_succ]; have := h1 i (by simpa using hi); omega
      · intro i j hij hj
        cases j with
        | zero => omega
        | succ j =>
          cases i with
          | zero => rw [nth_cons_zero, nth_cons_succ]; exact h1 j (by simpa using hj)
          | succ i => rw [nth_cons_succ, nth_cons_succ]; exact h2 i j (by omega) (by simpa using hj)

/-- What a list of classes that may be is. -/
structure COk (xs : List Int) : Prop where
  pos : 1 ≤ xs.length
  most : xs.length ≤ 8
  least : ∀ i, i < xs.length → 2 ≤ nth xs i
  top : ∀ i, i < xs.length → nth xs i ≤ 64
  inc : ∀ i j, i < j → j < xs.length → nth xs i < nth xs j

theorem ccheck_ok {xs : List Int} (h : ccheck xs = 0) : COk xs := by
  unfold ccheck at h
  split at h
  · cases h
  · rename_i hn
    obtain ⟨h1, h2⟩ := ccheckLoop_ok xs 1 h
    have hl : nth xs (xs.length - 1) ≤ 64 := by omega
    refine ⟨by omega, by omega, fun i hi => by have := h1 i hi; omega, fun i hi => ?_, h2⟩
    by_cases he : i = xs.length - 1
    · rw [he]; exact hl
    · have := h2 i (xs.length - 1) (by omega) (by omega); omega

theorem ccheckLoop_mk (xs : List Int) : ∀ q, (∀ i, i < xs.length → q < nth xs i) → (∀ i j, i < j → j < xs.length → nth xs i < nth xs j) → ccheckLoop q xs = 0 := by
  induction xs with
  | nil => intro _ _ _; rfl
  | cons x r ih =>
    intro q h1 h2
    have h0 := h1 0 (by simp)
    rw [nth_cons_zero] at h0
    rw [ccheckLoop, if_neg (by omega)]
    refine ih x (fun i hi => ?_) (fun i j hij hj => ?_)
    · have := h2 0 (i + 1) (by omega) (by simpa using hi); rwa [nth_cons_zero, nth_cons_succ] at this
    · have := h2 (i + 1) (j + 1) (by omega) (by simpa using hj); rwa [nth_cons_succ, nth_cons_succ] at this

theorem ccheck_mk {xs : List Int} (h : COk xs) : ccheck xs = 0 := by
  unfold ccheck
  rw [if_neg (by have := h.pos; have := h.most; have := h.top (xs.length - 1) (by omega); omega)]
  exact ccheckLoop_mk xs 1 (fun i hi => by have := h.least i hi; omega) h.inc

theorem ccheck_iff (xs : List Int) : ccheck xs = 0 ↔ COk xs := ⟨ccheck_ok, ccheck_mk⟩

/-- How many of the first classes are below a number of words. -/
def below (xs : List Int) (w : Int) : Nat := (xs.takeWhile (· < w)).length

theorem below_le (xs : List Int) (w : Int) : below xs w ≤ xs.length := by
  unfold below; induction xs with
  | nil => simp
  | cons x r ih => simp only [List.takeWhile_cons]; split <;> simp <;> omega

theorem below_lt (xs : List Int) (w : Int) : ∀ i, i < below xs w → nth xs i < w := by
  unfold below; induction xs with
  | nil => intro i h; simp at h
  | cons x r ih =>
    intro i h
    rw [List.takeWhile_cons] at h
    split at h
    · cases i with
      | zero => simp_all [nth]
      | succ i => rw [nth_cons_succ]; exact ih i (by simpa using h)
    · simp at h

theorem below_at (xs : List Int) (w : Int) (h : below xs w < xs.length) : w ≤ nth xs (below xs w) := by
  unfold below at *; induction xs with
  | nil => simp at h
  | cons x r ih =>
    by_cases hx : x < w
    · have hd : decide (x < w) = true := by simpa using hx
      simp only [List.takeWhile_cons, hd, if_true, List.length_cons] at h ⊢
      rw [nth_cons_succ]; exact ih (by omega)
    · have hd : decide (x < w) = false := by simpa using hx
      simp only [List.takeWhile_cons, hd, Bool.false_eq_true, if_false, List.length_nil]
      rw [nth_cons_zero]; omega

/-- There is one place where a rising row passes a number. -/
theorem below_uniq {xs : List Int} {w : Int} {r : Nat} (hr : r ≤ xs.length) (h1 : ∀ i, i < r → nth xs i < w) (h2 : r < xs.length → w ≤ nth xs r) : r = below xs w := by
  have a := below_le xs w
  have b := below_lt xs w
  have c := below_at xs w
  rcases Nat.lt_trichotomy r (below xs w) with h | h | h
  · have := h2 (by omega); have := b r h; omega
  · exact h
  · have := h1 _ h; have := c (by omega); omega

/-- class.Of -/
def cof (xs : List Int) (w : Int) : Int × Int :=
  if ccheck xs ≠ 0 then (0, ccheck xs) else if below xs w = xs.length ∨ w < 1 then (0, 50) else (below xs w, 0)
/-- class.Round -/
def cround (xs : List Int) (w : Int) : Int × Int :=
  if (cof xs w).2 ≠ 0 then (0, (cof xs w).2) else (nth xs (cof xs w).1.toNat, 0)
/-- class.Waste -/
def cwaste (xs : List Int) (w : Int) : Int × Int :=
  if (cround xs w).2 ≠ 0 then (0, (cround xs w).2) else ((cround xs w).1 - w, 0)

/-! ### The document's answer -/
theorem ccheck_bad {xs : List Int} {k : Nat} (hk : k < xs.length) (h : nth xs k < 2 ∨ 64 < nth xs k ∨ 0 < k ∧ nth xs k ≤ nth xs (k - 1)) : ccheck xs = 2 := by
  rcases ccheck_01 xs with h0 | h0
  · have ho := ccheck_ok h0
    have a := ho.least k hk
    have b := ho.top k hk
    rcases h with h | h | ⟨h1, h2⟩
    · omega
    · omega
    · have := ho.inc (k - 1) k (by omega) hk; omega
  · exact h0

theorem ccheck_good {xs : List Int} (h1 : 1 ≤ xs.length) (h8 : xs.length ≤ 8) (h : ∀ k, k < xs.length → 2 ≤ nth xs k ∧ nth xs k ≤ 64 ∧ (0 < k → nth xs (k - 1) < nth xs k)) : ccheck xs = 0 := by
  refine ccheck_mk ⟨h1, h8, fun i hi => (h i hi).1, fun i hi => (h i hi).2.1, ?_⟩
  intro i j hij
  induction j with
  | zero => omega
  | succ j ih =>
    intro hj
    have := (h (j + 1) hj).2.2 (by omega)
    simp only [Nat.add_sub_cancel] at this
    rcases Nat.lt_or_ge i j with h' | h'
    · have := ih h' (by omega); omega
    · obtain rfl : i = j := by omega
      exact this

theorem ccheck_len {xs : List Int} (h : xs.length < 1 ∨ 8 < xs.length) : ccheck xs = 2 := by unfold ccheck; rw [if_pos (by omega)]

end Go.Proofs.YtnbngcagnchkdaaDoor

/-! Configurations in plain Lean: what conf.Check, Slots, Pages, Region, Base, Total and the document's answers compute. No program is named here. -/
namespace Go.Proofs.YtnbngcagnchkdaaDoor

structure Ten where
  q : Int
  tr : Int
  cp : Int
  sst : Int

structure Conf where
  cl : List Int
  page : Int
  ts : List Ten
  wk : Int
  gr : Int
  gens : Int

def ten0 : Ten := ⟨0, 0, 0, 0⟩
def tnth (ts : List Ten) (i : Nat) : Ten := ts.getD i ten0

theorem drop_tnth (ts : List Ten) (k : Nat) (h : k < ts.length) : ts.drop k = tnth ts k :: ts.drop (k + 1) := by
  rw [List.drop_eq_getElem_cons h]; simp [tnth, List.getD, h]

/-- conf.within: three by three. -/
def wthn : List Int → Bool
  | a :: b :: c :: r => if b < a ∨ c < b then false else wthn r
  | _ => true

theorem wthn_step (a b c : Int) (r : List Int) : wthn (a :: b :: c :: r) = if b < a ∨ c < b then false else wthn r := rfl
theorem wthn_short {l : List Int} (h : l.length < 3) : wthn l = true := by
  match l, h with
  | [], _ => rfl
  | [_], _ => rfl
  | [_, _], _ => rfl
  | _ :: _ :: _ :: _, h => simp at h; omega

/-- The sum of f 0 .. f (n - 1). -/
def sumTo (f : Nat → Int) : Nat → Int
  | 0 => 0
  | n + 1 => sumTo f n + f n

theorem sumTo_bound (f : Nat → Int) (B : Int) (n : Nat) (h : ∀ i, i < n → 0 ≤ f i ∧ f i ≤ B) : 0 ≤ sumTo f n ∧ sumTo f n ≤ n * B := by
  induction n with
  | zero => simp [sumTo]
  | succ n ih =>
    have h1 := ih fun i hi => h i (by omega)
    have h2 := h n (by omega)
    have h3 : ((n + 1 : Nat) : Int) * B = n * B + B := by rw [Int.natCast_add, Int.add_mul]; simp
    unfold sumTo
    omega
theorem sumTo_congr {f g : Nat → Int} (n : Nat) (h : ∀ i, i < n → f i = g i) : sumTo f n = sumTo g n := by
  induction n with
  | zero => rfl
  | succ n ih => unfold sumTo; rw [ih fun i hi => h i (by omega), h n (by omega)]
theorem sumTo_le {f g : Nat → Int} (n : Nat) (h : ∀ i, i < n → f i ≤ g i) : sumTo f n ≤ sumTo g n := by
  induction n with
  | zero => exact Int.le_refl _
  | succ n ih => unfold sumTo; have := ih fun i hi => h i (by omega); have := h n (by omega); omega

def great (c : Conf) : Int := nth c.cl (c.cl.length - 1)

def headOk (c : Conf) : Prop :=
  great c ≤ c.page ∧ c.page ≤ 64 ∧ 1 ≤ c.ts.length ∧ c.ts.length ≤ 8 ∧ 0 ≤ c.wk ∧ c.wk ≤ 8 ∧ 1 ≤ c.gr ∧ c.gr ≤ 64 ∧ 1 ≤ c.gens ∧ c.gens ≤ 2147483648
instance (c : Conf) : Decidable (headOk c) := by unfold headOk; infer_instance

def tenOk (g : Int) (t : Ten) : Prop := g ≤ t.q ∧ t.q ≤ 4096 ∧ 1 ≤ t.tr ∧ t.tr ≤ 1048576 ∧ 1 ≤ t.cp ∧ t.cp ≤ 1024 ∧ 0 ≤ t.sst ∧ t.sst ≤ 1024
instance (g : Int) (t : Ten) : Decidable (tenOk g t) := by unfold tenOk; infer_instance

def tenCheck (g : Int) : List Ten → Int
  | [] => 0
  | t :: r => if tenOk g t then tenCheck g r else 2

/-- conf.Check -/
def kcheck (c : Conf) : Int := if ccheck c.cl ≠ 0 then 2 else if headOk c then tenCheck (great c) c.ts else 2

structure KOk (c : Conf) : Prop where
  cl : COk c.cl
  head : headOk c
  ten : ∀ i, i < c.ts.length → tenOk (great c) (tnth c.ts i)

theorem tenCheck_01 (g : Int) (ts : List Ten) : tenCheck g ts = 0 ∨ tenCheck g ts = 2 := by
  induction ts with
  | nil => exact .inl rfl
  | cons t r ih => unfold tenCheck; split; exact ih; exact .inr rfl
theorem kcheck_01 (c : Conf) : kcheck c = 0 ∨ kcheck c = 2 := by
  unfold kcheck; split; exact .inr rfl; split; exact tenCheck_01 _ _; exact .inr rfl
theorem tenCheck_iff (g : Int) (ts : List Ten) : tenCheck g ts = 0 ↔ ∀ i, i < ts.length → tenOk g (tnth ts i) := by
  induction ts with
  | nil => exact ⟨fun _ i h => absurd h (Nat.not_lt_zero _), fun _ => rfl⟩
  | cons t r ih =>
    unfold tenCheck
    by_cases ht : tenOk g t
    · rw [if_pos ht, ih]
      constructor
      · intro h i hi
        cases i with
        | zero => exact ht
        | succ i => exact h i (by simpa using hi)
      · intro h i hi; exact h (i + 1) (by simpa using hi)
    · rw [if_neg ht]
      exact ⟨(fun h => by cases h), fun h => absurd (h 0 (by simp)) ht⟩
theorem kcheck_iff (c : Conf) : kcheck c = 0 ↔ KOk c := by
  unfold kcheck
  by_cases h0 : ccheck c.cl = 0
  · rw [if_neg (by omega)]
    by_cases h1 : headOk c
    · rw [if_pos h1, tenCheck_iff]
      exact ⟨fun h => ⟨ccheck_ok h0, h1, h⟩, fun h => h.ten⟩
    · rw [if_neg h1]
      exact ⟨(fun h => by cases h), fun h => absurd h.head h1⟩
  · rw [if_pos h0]
    exact ⟨(fun h => by cases h), fun h => absurd (ccheck_mk h.cl) h0⟩
theorem kcheck_ok {c : Conf} (h : kcheck c = 0) : KOk c := (kcheck_iff c).1 h

/-! ### What is told of a tenant and a class -/
def slotsOf (c : Conf) (t k : Nat) : Int := (tnth c.ts t).q / nth c.cl k
def perOf (c : Conf) (k : Nat) : Int := c.page / nth c.cl k
def pagesOf (c : Conf) (t k : Nat) : Int := (slotsOf c t k + perOf c k - 1) / perOf c k
def wordsOf (c : Conf) (t : Nat) : Int := sumTo (fun i => pagesOf c t i * c.page) c.cl.length
def baseOf (c : Conf) (t : Nat) : Int := sumTo (wordsOf c) t

def there (c : Conf) (t k : Int) : Prop := kcheck c = 0 ∧ 0 ≤ t ∧ t ≤ c.ts.length - 1 ∧ 0 ≤ k ∧ k ≤ c.cl.length - 1
instance (c : Conf) (t k : Int) : Decidable (there c t k) := by unfold there; infer_instance

def kslots (c : Conf) (t k : Int) : Int × Int := if there c t k then (slotsOf c t.toNat k.toNat, 0) else (0, 2)
def kpages (c : Conf) (t k : Int) : Int × Int := if there c t k then (pagesOf c t.toNat k.toNat, 0) else (0, 2)
def kregion (c : Conf) (t : Int) : Int × Int := if there c t 0 then (wordsOf c t.toNat, 0) else (0, 2)
def kbase (c : Conf) (t : Int) : Int × Int := if there c t 0 then (baseOf c t.toNat, 0) else (0, 2)
def ktotal (c : Conf) : Int × Int := if kcheck c = 0 then (baseOf c c.ts.length, 0) else (0, 2)

/-- The bounds on one tenant's one class. -/
structure Bounds (c : Conf) (t k : Nat) : Prop where
  c2 : 2 ≤ nth c.cl k
  c64 : nth c.cl k ≤ 64
  cpage : nth c.cl k ≤ c.page
  p64 : c.page ≤ 64
  cq : nth c.cl k ≤ (tnth c.ts t).q
  q4096 : (tnth c.ts t).q ≤ 4096
  per1 : 1 ≤ perOf c k
  per32 : perOf c k ≤ 32
  s1 : 1 ≤ slotsOf c t k
  s2048 : slotsOf c t k ≤ 2048
  pg1 : 1 ≤ pagesOf c t k
  pg2048 : pagesOf c t k ≤ 2048

theorem KOk.bounds {c : Conf} (h : KOk c) {t k : Nat} (ht : t < c.ts.length) (hk : k < c.cl.length) : Bounds c t k := by
  have a := h.cl.least k hk
  have b := h.cl.top k hk
  have g : nth c.cl k ≤ great c := by
    unfold great
    rcases Nat.lt_or_ge k (c.cl.length - 1) with c1 | c1
    · have := h.cl.inc k _ c1 (by omega); omega
    · have : k = c.cl.length - 1 := by omega
      rw [← this]; omega
  obtain ⟨g1, g2, _⟩ := h.head
  obtain ⟨q1, q2, _⟩ := h.ten t ht
  have per1 : 1 ≤ perOf c k := by
    unfold perOf; rw [Int.le_ediv_iff_mul_le (by omega)]; omega
  have per32 : perOf c k ≤ 32 := by
    unfold perOf
    have : c.page / nth c.cl k < 33 := by rw [Int.ediv_lt_iff_lt_mul (by omega)]; omega
    omega
  have s1 : 1 ≤ slotsOf c t k := by
    unfold slotsOf; rw [Int.le_ediv_iff_mul_le (by omega)]; omega
  have s2 : slotsOf c t k ≤ 2048 := by
    unfold slotsOf
    have : (tnth c.ts t).q / nth c.cl k < 2049 := by rw [Int.ediv_lt_iff_lt_mul (by omega)]; omega
    omega
  have pg1 : 1 ≤ pagesOf c t k := by
    unfold pagesOf; rw [Int.le_ediv_iff_mul_le (by omega)]; omega
  have pg2 : pagesOf c t k ≤ 2048 := by
    unfold pagesOf
    have : (slotsOf c t k + perOf c k - 1) / perOf c k < 2049 := by
      rw [Int.ediv_lt_iff_lt_mul (by omega)]
      have : 2048 * 1 ≤ 2048 * perOf c k := Int.mul_le_mul_of_nonneg_left per1 (by omega)
      omega
    omega
  exact ⟨a, b, by omega, g2, by omega, q2, per1, per32, s1, s2, pg1, pg2⟩

theorem KOk.page_bound {c : Conf} (h : KOk c) {t k : Nat} (ht : t < c.ts.length) (hk : k < c.cl.length) : 0 ≤ pagesOf c t k * c.page ∧ pagesOf c t k * c.page ≤ 131072 := by
  have b := h.bounds ht hk
  have b1 := b.pg1; have b2 := b.pg2048; have b3 := b.c2; have b4 := b.cpage; have b5 := b.p64
  constructor
  · exact Int.mul_nonneg (by omega) (by omega)
  · have := Int.mul_le_mul_of_nonneg_right (c := c.page) b2 (by omega)
    omega

theorem KOk.words_bound {c : Conf} (h : KOk c) {t : Nat} (ht : t < c.ts.length) : 0 ≤ wordsOf c t ∧ wordsOf c t ≤ 1048576 := by
  have := sumTo_bound (fun i => pagesOf c t i * c.page) 131072 c.cl.length (fun i hi => h.page_bound ht hi)
  have := h.cl.most
  unfold wordsOf
  omega
theorem KOk.base_bound {c : Conf} (h : KOk c) {t : Nat} (ht : t ≤ c.ts.length) : 0 ≤ baseOf c t ∧ baseOf c t ≤ 8388608 := by
  have := sumTo_bound (wordsOf c) 1048576 t (fun i hi => h.words_bound (by omega))
  obtain ⟨_, _, _, h8, _⟩ := h.head
  unfold baseOf
  omega

theorem there_nat {c : Conf} {t k : Int} (h : there c t k) : ∃ (i j : Nat), t = i ∧ k = j ∧ i < c.ts.length ∧ j < c.cl.length ∧ KOk c := by
  obtain ⟨h0, h1, h2, h3, h4⟩ := h
  exact ⟨t.toNat, k.toNat, by omega, by omega, by omega, by omega, kcheck_ok h0⟩
theorem there_mk {c : Conf} {i j : Nat} (h : kcheck c = 0) (hi : i < c.ts.length) (hj : j < c.cl.length) : there c i j := ⟨h, by omega, by omega, by omega, by omega⟩

theorem kslots_yes {c : Conf} {i j : Nat} (h : there c i j) : kslots c i j = (slotsOf c i j, 0) := by unfold kslots; rw [if_pos h]; rfl
theorem kpages_yes {c : Conf} {i j : Nat} (h : there c i j) : kpages c i j = (pagesOf c i j, 0) := by unfold kpages; rw [if_pos h]; rfl
theorem kregion_yes {c : Conf} {i : Nat} (h : there c i 0) : kregion c i = (wordsOf c i, 0) := by unfold kregion; rw [if_pos h]; rfl
theorem kbase_yes {c : Conf} {i : Nat} (h : there c i 0) : kbase c i = (baseOf c i, 0) := by unfold kbase; rw [if_pos h]; rfl
theorem kslots_no {c : Conf} {t k : Int} (h : ¬ there c t k) : kslots c t k = (0, 2) := by unfold kslots; rw [if_neg h]
theorem kpages_no {c : Conf} {t k : Int} (h : ¬ there c t k) : kpages c t k = (0, 2) := by unfold kpages; rw [if_neg h]
theorem kregion_no {c : Conf} {t : Int} (h : ¬ there c t 0) : kregion c t = (0, 2) := by unfold kregion; rw [if_neg h]
theorem kbase_no {c : Conf} {t : Int} (h : ¬ there c t 0) : kbase c t = (0, 2) := by unfold kbase; rw [if_neg h]

end Go.Proofs.YtnbngcagnchkdaaDoor

/-! Plans in plain Lean: where a tenant's slots lie. No program is named here. -/
namespace Go.Proofs.YtnbngcagnchkdaaDoor

theorem sumTo_succ (f : Nat → Int) (n : Nat) : sumTo f (n + 1) = sumTo f n + f n := rfl
theorem sumTo_up {f : Nat → Int} {n : Nat} (h : ∀ i, i < n → 1 ≤ f i) (a : Nat) : ∀ d, a + d ≤ n → sumTo f a + d ≤ sumTo f (a + d)
  | 0, _ => by simp
  | d + 1, hd => by
    have h1 := sumTo_up h a d (by omega)
    have h2 := h (a + d) (by omega)
    rw [← Nat.add_assoc, sumTo_succ]
    omega
theorem sumTo_lt {f : Nat → Int} {n a b : Nat} (h : ∀ i, i < n → 1 ≤ f i) (hab : a ≤ b) (hb : b ≤ n) : sumTo f a + ((b - a : Nat) : Int) ≤ sumTo f b := by
  have := sumTo_up h a (b - a) (by omega)
  rwa [show a + (b - a) = b by omega] at this
theorem sum_find {f : Nat → Int} {s : Int} (h0 : 0 ≤ s) : ∀ n, s < sumTo f n → ∃ k, k < n ∧ sumTo f k ≤ s ∧ s < sumTo f (k + 1)
  | 0, h => by simp [sumTo] at h; omega
  | n + 1, h => by
    rcases Int.lt_or_le s (sumTo f n) with c | c
    · obtain ⟨k, h1, h2, h3⟩ := sum_find h0 n c
      exact ⟨k, by omega, h2, h3⟩
    · exact ⟨n, by omega, c, h⟩
theorem sum_side {f : Nat → Int} {n k : Nat} {s : Int} (h : ∀ i, i < n → 1 ≤ f i) (hk : k < n) (h1 : sumTo f k ≤ s) (h2 : s < sumTo f (k + 1)) (i : Nat) (hi : i < n) : decide (sumTo f i ≤ s) = decide (i ≤ k) := by
  rcases Nat.lt_or_ge k i with c | c
  · have := sumTo_lt (a := k + 1) (b := i) h (by omega) (by omega)
    rw [decide_eq_false (by omega), decide_eq_false (by omega)]
  · have := sumTo_lt (a := i) (b := k) h c (by omega)
    rw [decide_eq_true (by omega), decide_eq_true c]

/-- The first slot of a class; its first page. -/
def sS (c : Conf) (t k : Nat) : Int := sumTo (slotsOf c t) k
def sG (c : Conf) (t k : Nat) : Int := sumTo (pagesOf c t) k
structure Part where
  size : Int
  first : Int
  many : Int
  page : Int
  per : Int
def partOf (c : Conf) (t k : Nat) : Part := ⟨nth c.cl k, sS c t k, slotsOf c t k, sG c t k, perOf c k⟩

/-- Slot s is of class k. -/
structure AtClass (c : Conf) (t : Nat) (s : Int) (k : Nat) : Prop where
  lt : k < c.cl.length
  lo : sS c t k ≤ s
  hi : s < sS c t (k + 1)
/-- Page p is of class k. -/
structure AtPage (c : Conf) (t : Nat) (p : Int) (k : Nat) : Prop where
  lt : k < c.cl.length
  lo : sG c t k ≤ p
  hi : p < sG c t (k + 1)
theorem atClass_find {c : Conf} {t : Nat} {s : Int} (h0 : 0 ≤ s) (h : s < sS c t c.cl.length) : ∃ k, AtClass c t s k := by
  obtain ⟨k, h1, h2, h3⟩ := sum_find h0 _ h
  exact ⟨k, h1, h2, h3⟩
theorem atPage_find {c : Conf} {t : Nat} {s : Int} (h0 : 0 ≤ s) (h : s < sG c t c.cl.length) : ∃ k, AtPage c t s k := by
  obtain ⟨k, h1, h2, h3⟩ := sum_find h0 _ h
  exact ⟨k, h1, h2, h3⟩
theorem KOk.slots1 {c : Conf} (h : KOk c) {t : Nat} (ht : t < c.ts.length) : ∀ i, i < c.cl.length → 1 ≤ slotsOf c t i := fun _ hi => (h.bounds ht hi).s1
theorem KOk.pages1 {c : Conf} (h : KOk c) {t : Nat} (ht : t < c.ts.length) : ∀ i, i < c.cl.length → 1 ≤ pagesOf c t i := fun _ hi => (h.bounds ht hi).pg1
theorem KOk.sS_le {c : Conf} (h : KOk c) {t k : Nat} (ht : t < c.ts.length) (hk : k ≤ c.cl.length) : (k : Int) ≤ sS c t k ∧ sS c t k ≤ k * 2048 := by
  have h1 := sumTo_lt (a := 0) (b := k) (h.slots1 ht) (Nat.zero_le _) hk
  have h2 := sumTo_bound (slotsOf c t) 2048 k fun i hi => ⟨by have := (h.bounds ht (k := i) (by omega)).s1; omega, (h.bounds ht (by omega)).s2048⟩
  unfold sS
  simp [sumTo] at h1
  omega
theorem KOk.sG_le {c : Conf} (h : KOk c) {t k : Nat} (ht : t < c.ts.length) (hk : k ≤ c.cl.length) : (k : Int) ≤ sG c t k ∧ sG c t k ≤ k * 2048 := by
  have h1 := sumTo_lt (a := 0) (b := k) (h.pages1 ht) (Nat.zero_le _) hk
  have h2 := sumTo_bound (pagesOf c t) 2048 k fun i hi => ⟨by have := (h.bounds ht (k := i) (by omega)).pg1; omega, (h.bounds ht (by omega)).pg2048⟩
  unfold sG
  simp [sumTo] at h1
  omega
theorem KOk.S_side {c : Conf} (h : KOk c) {t k : Nat} {s : Int} (ht : t < c.ts.length) (hk : AtClass c t s k) (i : Nat) (hi : i < c.cl.length) : decide (sS c t i ≤ s) = decide (i ≤ k) :=
  sum_side (h.slots1 ht) hk.lt hk.lo hk.hi i hi
theorem KOk.G_side {c : Conf} (h : KOk c) {t k : Nat} {s : Int} (ht : t < c.ts.length) (hk : AtPage c t s k) (i : Nat) (hi : i < c.cl.length) : decide (sG c t i ≤ s) = decide (i ≤ k) :=
  sum_side (h.pages1 ht) hk.lt hk.lo hk.hi i hi
theorem sG_words {c : Conf} (t : Nat) : ∀ k, sumTo (fun i => pagesOf c t i * c.page) k = sG c t k * c.page
  | 0 => by simp [sG, sumTo]
  | k + 1 => by rw [sumTo_succ, sG_words t k]; unfold sG; rw [sumTo_succ, Int.add_mul]

end Go.Proofs.YtnbngcagnchkdaaDoor

/-! mem in plain Lean: where regions lie. No program is named here. -/
namespace Go.Proofs.YtnbngcagnchkdaaDoor

/-- Where a region begins, how many words it has: as natural numbers. -/
def baseN (c : Conf) (t : Nat) : Nat := (baseOf c t).toNat
def wordsN (c : Conf) (t : Nat) : Nat := (wordsOf c t).toNat
def totalN (c : Conf) : Nat := baseN c c.ts.length

theorem KOk.baseN_eq {c : Conf} (h : KOk c) {t : Nat} (ht : t ≤ c.ts.length) : (baseN c t : Int) = baseOf c t := by
  have := (h.base_bound ht).1
  unfold baseN; omega
theorem KOk.wordsN_eq {c : Conf} (h : KOk c) {t : Nat} (ht : t < c.ts.length) : (wordsN c t : Int) = wordsOf c t := by
  have := (h.words_bound ht).1
  unfold wordsN; omega
theorem KOk.baseN_succ {c : Conf} (h : KOk c) {t : Nat} (ht : t < c.ts.length) : baseN c (t + 1) = baseN c t + wordsN c t := by
  have h1 := h.baseN_eq (t := t) (by omega)
  have h2 := h.baseN_eq (t := t + 1) ht
  have h3 := h.wordsN_eq ht
  have : baseOf c (t + 1) = baseOf c t + wordsOf c t := rfl
  omega
theorem baseN_zero (c : Conf) : baseN c 0 = 0 := rfl
theorem KOk.baseN_le {c : Conf} (h : KOk c) {t s : Nat} (hts : t ≤ s) (hs : s ≤ c.ts.length) : baseN c t ≤ baseN c s := by
  induction s with
  | zero => have : t = 0 := by omega
            subst this; exact Nat.le_refl _
  | succ n ih =>
    rcases Nat.lt_or_ge n t with g | g
    · have : t = n + 1 := by omega
      subst this; exact Nat.le_refl _
    · have := ih g (by omega)
      have := h.baseN_succ (t := n) (by omega)
      omega
theorem KOk.total_le {c : Conf} (h : KOk c) : totalN c ≤ 8388608 := by
  have := (h.base_bound (Nat.le_refl _)).2
  unfold totalN baseN; omega
theorem KOk.words_pos {c : Conf} (h : KOk c) {t : Nat} (ht : t < c.ts.length) : 1 ≤ wordsN c t := by
  have h1 := h.wordsN_eq ht
  have h2 := (h.sG_le ht (k := c.cl.length) (Nat.le_refl _)).1
  have h3 := h.cl.pos
  have h4 : wordsOf c t = sG c t c.cl.length * c.page := sG_words t _
  have bd := h.bounds ht (k := 0) h3
  have h5 := bd.c2; have h6 := bd.cpage
  have h7 := Int.mul_le_mul_of_nonneg_right (show (1 : Int) ≤ sG c t c.cl.length by omega) (show 0 ≤ c.page by omega)
  omega
theorem KOk.region_in {c : Conf} (h : KOk c) {t : Nat} (ht : t < c.ts.length) : baseN c t + wordsN c t ≤ totalN c := by
  have := h.baseN_succ ht
  have := h.baseN_le (t := t + 1) (s := c.ts.length) ht (Nat.le_refl _)
  unfold totalN; omega
theorem KOk.total_pos {c : Conf} (h : KOk c) : 1 ≤ totalN c := by
  have h1 := h.head.2.2.1
  have := h.words_pos (t := 0) (by omega)
  have := h.region_in (t := 0) (by omega)
  omega
/-- Regions do not meet. -/
theorem KOk.apart {c : Conf} (h : KOk c) {t s : Nat} (ht : t < c.ts.length) (hs : s < c.ts.length) (hne : t ≠ s) : baseN c t + wordsN c t ≤ baseN c s ∨ baseN c s + wordsN c s ≤ baseN c t := by
  have e1 := h.baseN_succ ht
  have e2 := h.baseN_succ hs
  rcases Nat.lt_or_ge t s with g | g
  · have := h.baseN_le (t := t + 1) (s := s) g (by omega); omega
  · have := h.baseN_le (t := s + 1) (s := t) (by omega) (by omega); omega

/-- The words of a region; words of which some are 0. -/
def regionL (c : Conf) (ws : List Int) (t : Nat) : List Int := (ws.drop (baseN c t)).take (wordsN c t)
def zeroL (ws : List Int) (a n : Nat) : List Int := ws.take a ++ List.replicate n 0 ++ ws.drop (a + n)
theorem zeroL_len {ws : List Int} {a n : Nat} (h : a + n ≤ ws.length) : (zeroL ws a n).length = ws.length := by
  unfold zeroL; simp; omega
theorem nth_zeroL {ws : List Int} {a n : Nat} (h : a + n ≤ ws.length) (i : Nat) : nth (zeroL ws a n) i = if a ≤ i ∧ i < a + n then 0 else nth ws i := by
  unfold zeroL nth
  simp only [List.getD]
  rcases Nat.lt_or_ge i a with h1 | h1
  · rw [if_neg (by omega), List.append_assoc, List.getElem?_append_left (by simp; omega), List.getElem?_take]
    simp [h1]
  · rw [List.append_assoc, List.getElem?_append_right (by simp; omega)]
    have e : (ws.take a).length = a := by simp; omega
    rw [e]
    rcases Nat.lt_or_ge i (a + n) with h2 | h2
    · rw [if_pos ⟨h1, h2⟩, List.getElem?_append_left (by simp; omega)]
      simp [List.getElem?_replicate, show i - a < n by omega]
    · rw [if_neg (by omega), List.getElem?_append_right (by simp; omega)]
      simp [show a + n + (i - a - n) = i by omega]
theorem regionL_len {c : Conf} {ws : List Int} {t : Nat} (h : KOk c) (ht : t < c.ts.length) (hl : ws.length = totalN c) : (regionL c ws t).length = wordsN c t := by
  have := h.region_in ht
  unfold regionL; simp; omega
theorem nth_regionL {c : Conf} {ws : List Int} {t i : Nat} (hi : i < wordsN c t) : nth (regionL c ws t) i = nth ws (baseN c t + i) := by
  unfold regionL nth
  simp [List.getD, List.getElem?_take, hi]

end Go.Proofs.YtnbngcagnchkdaaDoor

/-! The document's memory in plain Lean: regions of words when a word is turned, words that are zeroed one by one, all words. No program is named here. -/
namespace Go.Proofs.YtnbngcagnchkdaaDoor
open Go.RowKit

theorem nth_setL {xs : List Int} {i j : Nat} {v : Int} (h : i < xs.length) : nth (xs.set i v) j = if j = i then v else nth xs j := by
  unfold nth
  by_cases e : j = i
  · subst e; simp [h]
  · rw [if_neg e]
    simp [List.getD, List.getElem?_set, Ne.symm e]
theorem regionL_set {c : Conf} {ws : List Int} {t i : Nat} (x : Int) (h : KOk c) (ht : t < c.ts.length) (hl : ws.length = totalN c) (hi : i < wordsN c t) : regionL c (ws.set (baseN c t + i) x) t = (regionL c ws t).set i x := by
  have hin := h.region_in ht
  have l1 := regionL_len h ht hl
  have l2 := regionL_len (ws := ws.set (baseN c t + i) x) h ht (by rw [List.length_set]; exact hl)
  refine nth_ext (by rw [l2, List.length_set, l1]) fun j hj => ?_
  rw [l2] at hj
  rw [nth_regionL hj, nth_setL (by omega), nth_setL (by omega), nth_regionL hj]
  by_cases e : j = i
  · subst e; rw [if_pos rfl, if_pos rfl]
  · rw [if_neg (by omega), if_neg e]
theorem regionL_far {c : Conf} {ws : List Int} {t s i : Nat} (x : Int) (h : KOk c) (ht : t < c.ts.length) (hs : s < c.ts.length) (hne : s ≠ t) (hl : ws.length = totalN c) (hi : i < wordsN c t) : regionL c (ws.set (baseN c t + i) x) s = regionL c ws s := by
  have hin := h.region_in ht
  have hap := h.apart ht hs (Ne.symm hne)
  have l1 := regionL_len h hs hl
  have l2 := regionL_len (ws := ws.set (baseN c t + i) x) h hs (by rw [List.length_set]; exact hl)
  refine nth_ext (by rw [l2, l1]) fun j hj => ?_
  rw [l2] at hj
  rw [nth_regionL hj, nth_setL (by omega), nth_regionL hj, if_neg (by omega)]
theorem zeroL_succ {ws : List Int} {a n : Nat} (h : a + n < ws.length) : zeroL ws a (n + 1) = (zeroL ws a n).set (a + n) 0 := by
  have l1 := zeroL_len (ws := ws) (a := a) (n := n) (by omega)
  have l2 := zeroL_len (ws := ws) (a := a) (n := n + 1) (by omega)
  refine nth_ext (by rw [l2, List.length_set, l1]) fun j hj => ?_
  rw [nth_zeroL (by omega), nth_setL (by omega), nth_zeroL (by omega)]
  by_cases e : j = a + n
  · subst e; rw [if_pos rfl, if_pos ⟨by omega, by omega⟩]
  · rw [if_neg e]
    by_cases g : a ≤ j ∧ j < a + n
    · rw [if_pos g, if_pos ⟨g.1, by omega⟩]
    · rw [if_neg g, if_neg (by omega)]
theorem zeroL_zero (ws : List Int) (a : Nat) : zeroL ws a 0 = ws := by simp [zeroL]
theorem take_region {c : Conf} (ws : List Int) {t : Nat} (h : KOk c) (ht : t < c.ts.length) : ws.take (baseN c (t + 1)) = ws.take (baseN c t) ++ regionL c ws t := by
  rw [h.baseN_succ ht, List.take_add]; rfl
theorem take_total {c : Conf} {ws : List Int} (hl : ws.length = totalN c) : ws.take (baseN c c.ts.length) = ws := by
  rw [List.take_of_length_le]; rw [hl]; exact Nat.le_refl _
theorem replicate_region {c : Conf} {t : Nat} (h : KOk c) (ht : t < c.ts.length) : regionL c (List.replicate (totalN c) 0) t = List.replicate (wordsN c t) 0 := by
  have hin := h.region_in ht
  have l1 := regionL_len (ws := List.replicate (totalN c) 0) h ht (by simp)
  refine nth_ext (by rw [l1]; simp) fun j hj => ?_
  rw [l1] at hj
  rw [nth_regionL hj]
  simp [nth, List.getD, show baseN c t + j < totalN c by omega, hj]

end Go.Proofs.YtnbngcagnchkdaaDoor
