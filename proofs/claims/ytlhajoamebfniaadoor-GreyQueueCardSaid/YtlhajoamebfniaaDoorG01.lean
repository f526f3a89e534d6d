/-
  Merged texts: Base, ClassP, Ent, ClassC, Ref05C, ConfP, Conf.
-/
import Derived.Below
import Derived.WalkKit
import Derived.Lib.Hide
import Derived.Deep.Draws
import Derived.WalkSpells
import Derived.WalkLawsBesides
import Derived.Test.YtlhajoamebfniaaDoorProg
import Derived.Outline
import Derived.BigQuiet
import Derived.Deep.QuietTactic
set_option linter.unusedVariables false
set_option linter.unusedSimpArgs false
/-! Small definitions and lemmas that all walks of this seat share: lists by index, worlds that extend worlds, rows of numbers in memory. No program is named here. -/
namespace Go.Proofs.YtlhajoamebfniaaDoor
open Go.RowKit

/-! ### Lists by index -/
def nth (xs : List Int) (i : Nat) : Int := xs.getD i 0

theorem drop_nth (xs : List Int) (k : Nat) (h : k < xs.length) : xs.drop k = nth xs k :: xs.drop (k + 1) := by
  rw [List.drop_eq_getElem_cons h]; simp [nth, List.getD, h]

theorem nth_mem {xs : List Int} {k : Nat} (h : k < xs.length) : nth xs k ∈ xs := by
  simp [nth, List.getD, h]

theorem nth_ext {a b : List Int} (h : a.length = b.length) (he : ∀ i, i < a.length → nth a i = nth b i) : a = b := by
  refine List.ext_getElem h fun i h1 h2 => ?_
  have := he i h1
  simpa [nth, List.getD, h1, h2] using this

theorem nth_cons_zero (x : Int) (xs : List Int) : nth (x :: xs) 0 = x := rfl
theorem nth_cons_succ (x : Int) (xs : List Int) (k : Nat) : nth (x :: xs) (k + 1) = nth xs k := rfl

theorem drop_all {xs : List Int} {k : Nat} (h : xs.length ≤ k) : xs.drop k = [] := List.drop_of_length_le h

/-! ### Worlds that extend worlds: all that there was is as it was -/
def Ext (w w' : World) : Prop := Below w.heap.size w w'

theorem Ext.refl (w : World) : Ext w w := Below.refl _ _
theorem Ext.below {w w' : World} (h : Ext w w') : Below w.heap.size w w' := h
theorem Ext.of {w w' : World} (h : Below w.heap.size w w') : Ext w w' := h
theorem Ext.size {w w' : World} (h : Ext w w') : w.heap.size ≤ w'.heap.size := Below.size h
theorem Ext.trans {a b c : World} (h : Ext a b) (k : Ext b c) : Ext a c := Below.trans h (Below.mono k (Below.size h))
theorem Ext.alloc {a w : World} (h : Ext a w) (o : Obj) : Ext a (w.alloc o) := Below.alloc h (Below.size h) o
theorem Ext.drew {a w : World} (h : Ext a w) : Ext a w.drew := Below.drew h
theorem Ext.setCell {a w : World} (h : Ext a w) {p : Addr} (hp : a.heap.size ≤ p.block) (u : Value) : Ext a (w.setCell p u) := Below.setCell h hp u
theorem Ext.drewN {a w : World} (h : Ext a w) (n : Nat) : Ext a (w.drewN n) := by
  exact ⟨Below.os (w := a) (w' := w) h, Below.tape (w := a) (w' := w) h, Below.output (w := a) (w' := w) h, Below.size (w := a) (w' := w) h, Below.block (w := a) (w' := w) h⟩

theorem cell_lt {w : World} {p : Addr} {v : Value} (h : w.cell? p = some v) : p.block < w.heap.size := by
  unfold World.cell? at h
  rcases Nat.lt_or_ge p.block w.heap.size with hl | hl
  · exact hl
  · rw [Array.getElem?_eq_none hl] at h; simp at h

theorem Ext.cell {w w' : World} (h : Ext w w') {p : Addr} {v : Value} (hc : w.cell? p = some v) : w'.cell? p = some v := by
  rw [Below.cell h (cell_lt hc)]; exact hc
theorem Ext.block {w w' : World} (h : Ext w w') {k : Nat} {o : Obj} (hc : w.heap[k]? = some o) : w'.heap[k]? = some o := by
  rw [Below.block h k (Array.getElem?_eq_some_iff.1 hc).1]; exact hc
theorem Ext.frozen {w w' : World} (h : Ext w w') {p : Addr} (hp : p.block < w.heap.size) : w'.frozen? p = w.frozen? p := Below.frozen h hp

/-- The one cell of a new block. -/
theorem cell_new1 (w : World) (v : Value) (t : TypeId) : (w.alloc (.cells #[v] t)).cell? ⟨w.heap.size, 0, none⟩ = some v := by
  simp
theorem cell_newN (w : World) (vs : Array Value) (t : TypeId) (i : Nat) : (w.alloc (.cells vs t)).cell? ⟨w.heap.size, i, none⟩ = vs[i]? := by
  simp
theorem cell_alloc {w : World} {p : Addr} {v : Value} (h : w.cell? p = some v) (o : Obj) : (w.alloc o).cell? p = some v := ((Ext.refl w).alloc o).cell h

/-! ### Rows of numbers in memory: 'a' leads to the numbers xs, one behind the other -/
def At (k : IntKind) (w : World) (a : Option Addr) (xs : List Int) : Prop :=
  ∀ i, i < xs.length → ∃ b o, a = some ⟨b, o, none⟩ ∧ w.cell? ⟨b, o + i, none⟩ = some (.int k (nth xs i))

theorem At.pos {k : IntKind} {w : World} {a : Option Addr} {xs : List Int} (h : At k w a xs) (h0 : 0 < xs.length) :
    ∃ b o, a = some ⟨b, o, none⟩ ∧ ∀ i, i < xs.length → w.cell? ⟨b, o + i, none⟩ = some (.int k (nth xs i)) := by
  obtain ⟨b, o, rfl, _⟩ := h 0 h0
  refine ⟨b, o, rfl, fun i hi => ?_⟩
  obtain ⟨b', o', e, hc⟩ := h i hi
  cases e; exact hc

theorem At.ext {k : IntKind} {w w' : World} {a : Option Addr} {xs : List Int} (h : At k w a xs) (hx : Ext w w') : At k w' a xs := by
  intro i hi
  obtain ⟨b, o, e, hc⟩ := h i hi
  exact ⟨b, o, e, hx.cell hc⟩

theorem At.nil {k : IntKind} {w : World} {a : Option Addr} : At k w a [] := fun _ h => absurd h (Nat.not_lt_zero _)

theorem At.mk {k : IntKind} {w : World} {b o : Nat} {xs : List Int} (h : ∀ i, i < xs.length → w.cell? ⟨b, o + i, none⟩ = some (.int k (nth xs i))) : At k w (some ⟨b, o, none⟩) xs :=
  fun i hi => ⟨b, o, rfl, h i hi⟩

theorem At.new (k : IntKind) (w : World) (xs : List Int) (t : TypeId) : At k (w.alloc (.cells (xs.map (Value.int k)).toArray t)) (some ⟨w.heap.size, 0, none⟩) xs := by
  refine At.mk fun i hi => ?_
  rw [Nat.zero_add, cell_newN]
  simp [nth, List.getD, hi]

theorem At.newb (k : IntKind) (w : World) (xs : List Int) (t : TypeId) (b : Nat) (hb : w.heap.size = b) : At k (w.alloc (.cells (xs.map (Value.int k)).toArray t)) (some ⟨b, 0, none⟩) xs := by
  subst hb; exact At.new k w xs t

/-- A row as the row's frame tells of it: the numbers that are its elements. -/
theorem At.of_row {k : IntKind} {w : World} {a : Option Addr} {len cap : Nat} {zs : List Int}
    (h : (a = none ∧ len = 0 ∧ cap = 0 ∧ zs = []) ∨ ∃ x, a = some x ∧ len ≤ cap ∧ cap ≤ maxLen ∧ zs.length = cap ∧ (∀ i, i < zs.length → w.cell? (x.add i) = some (.int k (zs.getD i 0))) ∧ ∀ n ∈ zs, (Lit.int k n).wf = true) :
    At k w a (zs.take len) ∧ (zs.take len).length = len ∧ len ≤ maxLen ∧ ∀ n ∈ zs.take len, (Lit.int k n).wf = true := by
  rcases h with ⟨rfl, rfl, rfl, rfl⟩ | ⟨x, rfl, hl, hm, hz, hc, hw⟩
  · exact ⟨At.nil, rfl, Nat.zero_le _, fun n hn => by simp at hn⟩
  · have hlen : (zs.take len).length = len := by rw [List.length_take]; omega
    refine ⟨?_, hlen, by omega, fun n hn => hw n (List.mem_of_mem_take hn)⟩
    intro i hi
    rw [hlen] at hi
    have h0 := hc i (by omega)
    obtain ⟨b, o, s⟩ := x
    have hs : s = none := by
      cases s with
      | none => rfl
      | some s =>
        have h1 := hc 0 (by omega)
        simp [Addr.add, World.cell?] at h1
        split at h1 <;> cases h1
    subst hs
    refine ⟨b, o, rfl, ?_⟩
    rw [Addr.add_lit] at h0
    rw [h0]; simp [nth, List.getD, hi]

/-- A contract's end, by name: what is handed back, and that all that there was is as it was. -/
theorem ret_int {k : IntKind} {a b : Int} (h : a = b) : Ending.returned (.int k a) = .returned (.int k b) := by rw [h]
theorem ret_bool {a b : Bool} (h : a = b) : Ending.returned (.bool a) = .returned (.bool b) := by rw [h]
theorem ret_int2 {k l : IntKind} {a b c d : Int} (h : a = b) (h' : c = d) : Ending.returned (.tuple #[.int k a, .int l c]) = .returned (.tuple #[.int k b, .int l d]) := by rw [h, h']

theorem mod_nat {tn : Int} {n : Nat} (hn : 1 ≤ n) : ∃ i : Nat, tn % (n : Int) = i ∧ i < n := by
  have h1 := Int.emod_nonneg tn (by omega : (n : Int) ≠ 0)
  have h2 := Int.emod_lt_of_pos tn (by omega : 0 < (n : Int))
  exact ⟨(tn % n).toNat, by omega, by omega⟩

end Go.Proofs.YtlhajoamebfniaaDoor

/-! Size classes in plain Lean: what class.Check, Of, Round, Waste and the document's answers compute. No program is named here. -/
namespace Go.Proofs.YtlhajoamebfniaaDoor

def ccheckLoop : Int → List Int → Int
  | _, [] => 0
  | last, x :: r => if x ≤ last then 2 else ccheckLoop x r

/-- class.Check -/
def ccheck (xs : List Int) : Int :=
  if xs.length < 1 ∨ 8 < xs.length ∨ 64 < nth xs (xs.length - 1) then 2 else ccheckLoop 1 xs

theorem ccheckLoop_01 (xs : List Int) : ∀ q, ccheckLoop q xs = 0 ∨ ccheckLoop q xs = 2 := by
  induction xs with
  | nil => intro q; exact .inl rfl
  | cons x r ih => intro q; unfold ccheckLoop; split; exact .inr rfl; exact ih x

theorem ccheck_01 (xs : List Int) : ccheck xs = 0 ∨ ccheck xs = 2 := by
  unfold ccheck; split; exact .inr rfl; exact ccheckLoop_01 _ _

theorem ccheckLoop_ok (xs : List Int) : ∀ q, ccheckLoop q xs = 0 → (∀ i, i < xs.length → q < nth xs i) ∧ ∀ i j, i < j → j < xs.length → nth xs i < nth xs j := by
  induction xs with
  | nil => intro q _; exact ⟨fun i h => absurd h (Nat.not_lt_zero _), fun i j _ h => absurd h (Nat.not_lt_zero _)⟩
  | cons x r ih =>
    intro q h
    unfold ccheckLoop at h
    split at h
    · cases h
    · rename_i hq
      obtain ⟨h1, h2⟩ := ih x h
      constructor
      · intro i hi
        cases i with
        | zero => rw [nth_cons_zero]; omega
        | succ i => rw [nth_cons_succ]; have := h1 i (by simpa using hi); omega
      · intro i j hij hj
        cases j with
        | zero => omega
        | succ j =>
          cases i with
          | zero => rw [nth_cons_zero, nth_cons_succ]; exact h1 j (by simpa using hj)
          | succ i => rw [nth_cons_succ, nth_cons_succ]; exact h2 i j (by omega) (by simpa using hj)

/-- What a list of classes that may be is. -/
structure COk (xs : List Int) : Prop where
  pos : 1 ≤ xs.length
  most : xs.length ≤ 8
  least : ∀ i, i < xs.length → 2 ≤ nth xs i
  top : ∀ i, i < xs.length → nth xs i ≤ 64
  inc : ∀ i j, i < j → j < xs.length → nth xs i < nth xs j

theorem ccheck_ok {xs : List Int} (h : ccheck xs = 0) : COk xs := by
  unfold ccheck at h
  split at h
  · cases h
  · rename_i hn
    obtain ⟨h1, h2⟩ := ccheckLoop_ok xs 1 h
    have hl : nth xs (xs.length - 1) ≤ 64 := by omega
    refine ⟨by omega, by omega, fun i hi => by have := h1 i hi; omega, fun i hi => ?_, h2⟩
    by_cases he : i = xs.length - 1
    · rw [he]; exact hl
    · have := h2 i (xs.length - 1) (by omega) (by omega); omega

theorem ccheckLoop_mk (xs : List Int) : ∀ q, (∀ i, i < xs.length → q < nth xs i) → (∀ i j, i < j → j < xs.length → nth xs i < nth xs j) → ccheckLoop q xs = 0 := by
  induction xs with
  | nil => intro _ _ _; rfl
  | cons x r ih =>
    intro q h1 h2
    have h0 := h1 0 (by simp)
    rw [nth_cons_zero] at h0
    rw [ccheckLoop, if_neg (by omega)]
    refine ih x (fun i hi => ?_) (fun i j hij hj => ?_)
    · have := h2 0 (i + 1) (by omega) (by simpa using hi); rwa [nth_cons_zero, nth_cons_succ] at this
    · have := h2 (i + 1) (j + 1) (by omega) (by simpa using hj); rwa [nth_cons_succ, nth_cons_succ] at this

theorem ccheck_mk {xs : List Int} (h : COk xs) : ccheck xs = 0 := by
  unfold ccheck
  rw [if_neg (by have := h.pos; have := h.most; have := h.top (xs.length - 1) (by omega); omega)]
  exact ccheckLoop_mk xs 1 (fun i hi => by have := h.least i hi; omega) h.inc

theorem ccheck_iff (xs : List Int) : ccheck xs = 0 ↔ COk xs := ⟨ccheck_ok, ccheck_mk⟩

/-- How many of the first classes are below a number of words. -/
def below (xs : List Int) (w : Int) : Nat := (xs.takeWhile (· < w)).length

theorem below_le (xs : List Int) (w : Int) : below xs w ≤ xs.length := by
  unfold below; induction xs with
  | nil => simp
  | cons x r ih => simp only [List.takeWhile_cons]; split <;> simp <;> omega

theorem below_lt (xs : List Int) (w : Int) : ∀ i, i < below xs w → nth xs i < w := by
  unfold below; induction xs with
  | nil => intro i h; simp at h
  | cons x r ih =>
    intro i h
    rw [List.takeWhile_cons] at h
    split at h
    · cases i with
      | zero => simp_all [nth]
      | succ i => rw [nth_cons_succ]; exact ih i (by simpa using h)
    · simp at h

theorem below_at (xs : List Int) (w : Int) (h : below xs w < xs.length) : w ≤ nth xs (below xs w) := by
  unfold below at *; induction xs with
  | nil => simp at h
  | cons x r ih =>
    by_cases hx : x < w
    · have hd : decide (x < w) = true := by simpa using hx
      simp only [List.takeWhile_cons, hd, if_true, List.length_cons] at h ⊢
      rw [nth_cons_succ]; exact ih (by omega)
    · have hd : decide (x < w) = false := by simpa using hx
      simp only [List.takeWhile_cons, hd, Bool.false_eq_true, if_false, List.length_nil]
      rw [nth_cons_zero]; omega

/-- There is one place where a rising row passes a number. -/
theorem below_uniq {xs : List Int} {w : Int} {r : Nat} (hr : r ≤ xs.length) (h1 : ∀ i, i < r → nth xs i < w) (h2 : r < xs.length → w ≤ nth xs r) : r = below xs w := by
  have a := below_le xs w
  have b := below_lt xs w
  have c := below_at xs w
  rcases Nat.lt_trichotomy r (below xs w) with h | h | h
  · have := h2 (by omega); have := b r h; omega
  · exact h
  · have := h1 _ h; have := c (by omega); omega

/-- class.Of -/
def cof (xs : List Int) (w : Int) : Int × Int :=
  if ccheck xs ≠ 0 then (0, ccheck xs) else if below xs w = xs.length ∨ w < 1 then (0, 50) else (below xs w, 0)
/-- class.Round -/
def cround (xs : List Int) (w : Int) : Int × Int :=
  if (cof xs w).2 ≠ 0 then (0, (cof xs w).2) else (nth xs (cof xs w).1.toNat, 0)
/-- class.Waste -/
def cwaste (xs : List Int) (w : Int) : Int × Int :=
  if (cround xs w).2 ≠ 0 then (0, (cround xs w).2) else ((cround xs w).1 - w, 0)

/-! ### The document's answer -/
theorem ccheck_bad {xs : List Int} {k : Nat} (hk : k < xs.length) (h : nth xs k < 2 ∨ 64 < nth xs k ∨ 0 < k ∧ nth xs k ≤ nth xs (k - 1)) : ccheck xs = 2 := by
  rcases ccheck_01 xs with h0 | h0
  · have ho := ccheck_ok h0
    have a := ho.least k hk
    have b := ho.top k hk
    rcases h with h | h | ⟨h1, h2⟩
    · omega
    · omega
    · have := ho.inc (k - 1) k (by omega) hk; omega
  · exact h0

theorem ccheck_good {xs : List Int} (h1 : 1 ≤ xs.length) (h8 : xs.length ≤ 8) (h : ∀ k, k < xs.length → 2 ≤ nth xs k ∧ nth xs k ≤ 64 ∧ (0 < k → nth xs (k - 1) < nth xs k)) : ccheck xs = 0 := by
  refine ccheck_mk ⟨h1, h8, fun i hi => (h i hi).1, fun i hi => (h i hi).2.1, ?_⟩
  intro i j hij
  induction j with
  | zero => omega
  | succ j ih =>
    intro hj
    have := (h (j + 1) hj).2.2 (by omega)
    simp only [Nat.add_sub_cancel] at this
    rcases Nat.lt_or_ge i j with h' | h'
    · have := ih h' (by omega); omega
    · obtain rfl : i = j := by omega
      exact this

theorem ccheck_len {xs : List Int} (h : xs.length < 1 ∨ 8 < xs.length) : ccheck xs = 2 := by unfold ccheck; rw [if_pos (by omega)]

end Go.Proofs.YtlhajoamebfniaaDoor

/-! A function value's call enters the function's body. No program is named here. -/
namespace Go.Proofs.YtlhajoamebfniaaDoor
open Go.RowKit

/-- A call of function g enters its body. -/
def Enters (P : Program) (g : Nat) : Prop := ∀ args w, (callFunc g args).run P w = .ok (.enter g args) w

theorem Enters.mk {P : Program} {g : Nat} {fn : Func} (h : P.funcs[g]? = some fn) (h1 : (fn.name == "runtime.NumGoroutine") = false) (h2 : fn.body.isNone = false) : Enters P g := by
  intro args w
  have h3 : ¬ fn.name = "runtime.NumGoroutine" := by simpa using h1
  have h4 : ¬ fn.body = none := by intro e; rw [e] at h2; cases h2
  unfold callFunc
  simp [go_sem, h, h3, h4]

end Go.Proofs.YtlhajoamebfniaaDoor

/-! class.Check, class.Of, class.Round, class.Waste and sort.Search: each function hands back what its plain function computes, and leaves all that there was as it was. The rows must lie in memory as read. -/
namespace Go.Proofs.YtlhajoamebfniaaDoor
open Go.RowKit

set_option maxHeartbeats 1000000 in
theorem class_Check (a : Option Addr) (cap : Nat) (xs : List Int) (w : World) (h : At .i64 w a xs) (hl : xs.length ≤ maxLen) :
    Calls Tryd.prog 112 #[.slice a xs.length cap] w fun e w' => e = .returned (.int .i64 (ccheck xs)) ∧ w = w' := by
  unfold maxLen at hl
  by_cases h1 : xs.length < 1
  · have e : ccheck xs = 2 := by unfold ccheck; rw [if_pos (.inl h1)]
    have E := Lib.hid e; clear e
    go_enter Tryd.func112, Tryd.ntmps112
    go_wp2
    go_ret
    exact ⟨by rw [E.out]; rfl, rfl⟩
  · obtain ⟨b, o, rfl, hc⟩ := h.pos (by omega)
    by_cases h2 : xs.length > 8
    · have e : ccheck xs = 2 := by unfold ccheck; rw [if_pos (.inr (.inl h2))]
      have E := Lib.hid e; clear e
      go_enter Tryd.func112, Tryd.ntmps112
      go_wp2
      go_ret
      exact ⟨by rw [E.out]; rfl, rfl⟩
    · have hc0 := hc (xs.length - 1) (by omega)
      by_cases h3 : 64 < nth xs (xs.length - 1)
      · have e : ccheck xs = 2 := by unfold ccheck; rw [if_pos (.inr (.inr h3))]
        have E := Lib.hid e; clear e
        go_enter Tryd.func112, Tryd.ntmps112
        go_wp2
        go_ret
        exact ⟨by rw [E.out]; rfl, rfl⟩
      · have e : ccheck xs = ccheckLoop 1 (xs.drop 0) := by unfold ccheck; rw [if_neg (by omega)]; rfl
        have E := Lib.hid e; clear e
        go_enter Tryd.func112, Tryd.ntmps112
        go_wp2
        clear hc0
        go_loop [3, 5, 25] (fun last n i => ∃ (k : Nat) (q : Int), k ≤ xs.length ∧ i = .int .i64 k ∧ last = .int .i64 q ∧ ccheck xs = ccheckLoop q (xs.drop k)) (fun _ _ i => xs.length - (intOf i).toNat)
        case atStart => exact ⟨0, 1, Nat.zero_le _, rfl, rfl, E.out⟩
        case round =>
          obtain ⟨k, q, hk, rfl, rfl, hq⟩ := hrel
          have HQ := Lib.hid hq; clear hq
          by_cases hlt : k < xs.length
          · have hck := hc k hlt
            have hd := drop_nth xs k hlt
            have HD := Lib.hid hd; clear hd
            go_wp2
            · go_ret
              exact ⟨by rw [HQ.out, HD.out, ccheckLoop, if_pos (by omega)]; rfl, rfl⟩
            · go_round
              case rel => exact ⟨k + 1, _, by omega, by go_num, rfl, by rw [HQ.out, HD.out, ccheckLoop, if_neg (by omega)]⟩
              case measure => simp [intOf]; omega
          · go_wp2
            go_ret
            exact ⟨by rw [HQ.out, List.drop_of_length_le (by omega)]; rfl, rfl⟩

/-! ### sort.Search: a function value that answers as 'p' says, rising -/
/-- The function value g answers, of each number below n, what p says, wherever memory has gone on from w. -/
def Answers (P : Program) (g : Nat) (cs : Array Value) (n : Nat) (p : Nat → Bool) (w : World) : Prop :=
  ∀ i w', i < n → Ext w w' → Calls P g (#[.int .i64 i] ++ cs) w' fun e w'' => e = .returned (.bool (p i)) ∧ Ext w' w''

set_option maxHeartbeats 1000000 in
theorem sort_Search (g : Nat) (cs : Array Value) (n r : Nat) (p : Nat → Bool) (w : World) (hn : n ≤ 1073741824)
    (hp : Answers Tryd.prog g cs n p w) (hr : r ≤ n) (h1 : ∀ i, i < r → p i = false) (h2 : ∀ i, r ≤ i → i < n → p i = true) (hk : Enters Tryd.prog g) :
    Calls Tryd.prog 110 #[.int .i64 n, .func (.func g) #[] cs] w fun e w' => e = .returned (.int .i64 r) ∧ Ext w w' := by
  unfold Enters at hk
  have HP := Lib.hid hp; clear hp
  have H1 := Lib.hid h1; clear h1
  have H2 := Lib.hid h2; clear h2
  go_enter Tryd.func110, Tryd.ntmps110
  go_wp2
  go_loopw [5, 6, 7] (fun i j _ wr => ∃ (x y : Nat), i = .int .i64 x ∧ j = .int .i64 y ∧ x ≤ r ∧ r ≤ y ∧ y ≤ n ∧ Ext w wr) (fun i j _ _ => (intOf j).toNat - (intOf i).toNat)
  case atStart => exact ⟨0, n, rfl, rfl, Nat.zero_le _, hr, Nat.le_refl _, Ext.refl _⟩
  case round =>
    obtain ⟨x, y, rfl, rfl, hx, hy, hyn, hw⟩ := hrel
    by_cases hlt : x < y
    · go_wp2_with fail
      refine (HP.out ((x + y) / 2) _ (by omega) hw).mono ?_
      rintro e w1 ⟨rfl, hw1⟩
      have h3 : x ≤ (x + y) / 2 ∧ (x + y) / 2 < y := by omega
      cases hpm : p ((x + y) / 2)
      · have hm : (x + y) / 2 < r := by
          rcases Nat.lt_or_ge ((x + y) / 2) r with h | h
          · exact h
          · have := H2.out _ h (by omega); rw [hpm] at this; cases this
        go_wp2_with fail
        go_roundw
        case rel => exact ⟨(x + y) / 2 + 1, y, by go_num, rfl, by omega, by omega, by omega, hw.trans hw1⟩
        case measure => simp [intOf]; omega
      · have hm : r ≤ (x + y) / 2 := by
          rcases Nat.lt_or_ge ((x + y) / 2) r with h | h
          · have := H1.out _ h; rw [hpm] at this; cases this
          · exact h
        go_wp2_with fail
        go_roundw
        case rel => exact ⟨x, (x + y) / 2, rfl, by go_num, by omega, by omega, by omega, hw.trans hw1⟩
        case measure => simp [intOf]; omega
    · go_wp2_with fail
      go_ret
      exact ⟨ret_int (by omega), hw⟩

/-! ### class.Of -/

theorem class_Check' {a : Option Addr} {cap : Nat} (xs : List Int) (n : Nat) (p : Int) {w : World} (hn : xs.length = n) (hp : ccheck xs = p) (h : At .i64 w a xs) (hl : xs.length ≤ maxLen) :
    Calls Tryd.prog 112 #[.slice a n cap] w fun e w' => e = .returned (.int .i64 p) ∧ Ext w w' := by
  have := class_Check a cap xs w h hl; rw [hp, hn] at this; exact this.mono fun _ _ ⟨he, hw⟩ => ⟨he, hw ▸ Ext.refl _⟩

end Go.Proofs.YtlhajoamebfniaaDoor

/-! The document's answer for classes (commonageref05): each function hands back what class's own plain function computes, and leaves all that there was as it was. -/
namespace Go.Proofs.YtlhajoamebfniaaDoor
open Go.RowKit

set_option maxHeartbeats 2000000 in
theorem ref05_Check (a : Option Addr) (cap : Nat) (xs : List Int) (w : World) (h : At .i64 w a xs) (hl : xs.length ≤ maxLen) :
    Calls Tryd.prog 80 #[.slice a xs.length cap] w fun e w' => e = .returned (.int .i64 (ccheck xs)) ∧ Ext w w' := by
  unfold maxLen at hl
  by_cases h1 : xs.length < 1 ∨ 8 < xs.length
  · have E := Lib.hid (ccheck_len h1)
    rcases h1 with h1 | h1
    · go_enter Tryd.func80, Tryd.ntmps80
      go_wp2
      go_ret
      exact ⟨by rw [E.out]; rfl, Ext.refl _⟩
    · go_enter Tryd.func80, Tryd.ntmps80
      go_wp2
      go_ret
      exact ⟨by rw [E.out]; rfl, Ext.refl _⟩
  · obtain ⟨b, o, rfl, hc⟩ := h.pos (by omega)
    clear h
    have HC := Lib.hid hc; clear hc
    have hl1 : 1 ≤ xs.length := by omega
    have hl8 : xs.length ≤ 8 := by omega
    clear h1
    go_enter Tryd.func80, Tryd.ntmps80
    go_wp2
    go_loopw [3] (fun i wr => ∃ (k : Nat), k ≤ xs.length ∧ i = .int .i64 k ∧ Hid (∀ j, j < k → 2 ≤ nth xs j ∧ nth xs j ≤ 64 ∧ (0 < j → nth xs (j - 1) < nth xs j)) ∧ Ext w wr) (fun i _ => xs.length - (intOf i).toNat)
    case atStart => exact ⟨0, Nat.zero_le _, rfl, fun j hj => absurd hj (Nat.not_lt_zero _), Ext.refl _⟩
    case round =>
      obtain ⟨k, hk, rfl, HR, hw⟩ := hrel
      by_cases hlt : k < xs.length
      · have hck := hw.cell (HC.out k hlt)
        by_cases hb1 : nth xs k < 2
        · have E := Lib.hid (ccheck_bad hlt (.inl hb1))
          go_wp2
          go_quiet (fail)
          go_wp2
          go_ret
          exact ⟨by rw [E.out]; rfl, hw.drewN _⟩
        · have hd1 : decide (nth xs k < 2) = false := by simpa using hb1
          by_cases hb2 : 64 < nth xs k
          · have E := Lib.hid (ccheck_bad hlt (.inr (.inl hb2)))
            go_wp2
            go_quiet (fail)
            go_wp2
            go_ret
            exact ⟨by rw [E.out]; rfl, hw.drewN _⟩
          · have hd2 : decide (64 < nth xs k) = false := by simpa using hb2
            by_cases hb3 : 0 < k
            · have hd3 : decide (0 < (k : Int)) = true := by simpa using hb3
              have hcp := hw.cell (HC.out (k - 1) (by omega))
              by_cases hb4 : nth xs k ≤ nth xs (k - 1)
              · have E := Lib.hid (ccheck_bad hlt (.inr (.inr ⟨hb3, hb4⟩)))
                go_wp2
                go_quiet (fail)
                go_wp2
                go_ret
                exact ⟨by rw [E.out]; rfl, hw.drewN _⟩
              · have hd4 : decide (nth xs k ≤ nth xs (k - 1)) = false := by simpa using hb4
                go_wp2
                go_quiet (fail)
                go_wp2
                go_roundw
                case rel => exact ⟨k + 1, by omega, by go_num, fun j hj => (Nat.lt_succ_iff_lt_or_eq.1 hj).elim (HR.out j) (fun e => by subst e; exact ⟨by omega, by omega, fun _ => by omega⟩), hw.drewN _⟩
                case measure => simp [intOf]; omega
            · have hd3 : decide (0 < (k : Int)) = false := by simp; omega
              go_wp2
              go_quiet (fail)
              go_wp2
              go_roundw
              case rel => exact ⟨k + 1, by omega, by go_num, fun j hj => (Nat.lt_succ_iff_lt_or_eq.1 hj).elim (HR.out j) (fun e => by subst e; exact ⟨by omega, by omega, fun _ => by omega⟩), hw.drewN _⟩
              case measure => simp [intOf]; omega
      · have E := Lib.hid (ccheck_good hl1 hl8 (fun j hj => HR.out j (by omega)))
        go_wp2
        go_ret
        exact ⟨by rw [E.out]; rfl, hw⟩

end Go.Proofs.YtlhajoamebfniaaDoor

/-! Configurations in plain Lean: what conf.Check, Slots, Pages, Region, Base, Total and the document's answers compute. No program is named here. -/
namespace Go.Proofs.YtlhajoamebfniaaDoor

structure Ten where
  q : Int
  tr : Int
  cp : Int
  sst : Int

structure Conf where
  cl : List Int
  page : Int
  ts : List Ten
  wk : Int
  gr : Int
  gens : Int

def ten0 : Ten := ⟨0, 0, 0, 0⟩
def tnth (ts : List Ten) (i : Nat) : Ten := ts.getD i ten0

theorem drop_tnth (ts : List Ten) (k : Nat) (h : k < ts.length) : ts.drop k = tnth ts k :: ts.drop (k + 1) := by
  rw [List.drop_eq_getElem_cons h]; simp [tnth, List.getD, h]

/-- conf.within: three by three. -/
def wthn : List Int → Bool
  | a :: b :: c :: r => if b < a ∨ c < b then false else wthn r
  | _ => true

theorem wthn_step (a b c : Int) (r : List Int) : wthn (a :: b :: c :: r) = if b < a ∨ c < b then false else wthn r := rfl
theorem wthn_short {l : List Int} (h : l.length < 3) : wthn l = true := by
  match l, h with
  | [], _ => rfl
  | [_], _ => rfl
  | [_, _], _ => rfl
  | _ :: _ :: _ :: _, h => simp at h; omega

/-- The sum of f 0 .. f (n - 1). -/
def sumTo (f : Nat → Int) : Nat → Int
  | 0 => 0
  | n + 1 => sumTo f n + f n

theorem sumTo_bound (f : Nat → Int) (B : Int) (n : Nat) (h : ∀ i, i < n → 0 ≤ f i ∧ f i ≤ B) : 0 ≤ sumTo f n ∧ sumTo f n ≤ n * B := by
  induction n with
  | zero => simp [sumTo]
  | succ n ih =>
    have h1 := ih fun i hi => h i (by omega)
    have h2 := h n (by omega)
    have h3 : ((n + 1 : Nat) : Int) * B = n * B + B := by rw [Int.natCast_add, Int.add_mul]; simp
    unfold sumTo
    omega
theorem sumTo_congr {f g : Nat → Int} (n : Nat) (h : ∀ i, i < n → f i = g i) : sumTo f n = sumTo g n := by
  induction n with
  | zero => rfl
  | succ n ih => unfold sumTo; rw [ih fun i hi => h i (by omega), h n (by omega)]
theorem sumTo_le {f g : Nat → Int} (n : Nat) (h : ∀ i, i < n → f i ≤ g i) : sumTo f n ≤ sumTo g n := by
  induction n with
  | zero => exact Int.le_refl _
  | succ n ih => unfold sumTo; have := ih fun i hi => h i (by omega); have := h n (by omega); omega

def great (c : Conf) : Int := nth c.cl (c.cl.length - 1)

def headOk (c : Conf) : Prop :=
  great c ≤ c.page ∧ c.page ≤ 64 ∧ 1 ≤ c.ts.length ∧ c.ts.length ≤ 8 ∧ 0 ≤ c.wk ∧ c.wk ≤ 8 ∧ 1 ≤ c.gr ∧ c.gr ≤ 64 ∧ 1 ≤ c.gens ∧ c.gens ≤ 2147483648
instance (c : Conf) : Decidable (headOk c) := by unfold headOk; infer_instance

def tenOk (g : Int) (t : Ten) : Prop := g ≤ t.q ∧ t.q ≤ 4096 ∧ 1 ≤ t.tr ∧ t.tr ≤ 1048576 ∧ 1 ≤ t.cp ∧ t.cp ≤ 1024 ∧ 0 ≤ t.sst ∧ t.sst ≤ 1024
instance (g : Int) (t : Ten) : Decidable (tenOk g t) := by unfold tenOk; infer_instance

def tenCheck (g : Int) : List Ten → Int
  | [] => 0
  | t :: r => if tenOk g t then tenCheck g r else 2

/-- conf.Check -/
def kcheck (c : Conf) : Int := if ccheck c.cl ≠ 0 then 2 else if headOk c then tenCheck (great c) c.ts else 2

structure KOk (c : Conf) : Prop where
  cl : COk c.cl
  head : headOk c
  ten : ∀ i, i < c.ts.length → tenOk (great c) (tnth c.ts i)

theorem tenCheck_01 (g : Int) (ts : List Ten) : tenCheck g ts = 0 ∨ tenCheck g ts = 2 := by
  induction ts with
  | nil => exact .inl rfl
  | cons t r ih => unfold tenCheck; split; exact ih; exact .inr rfl
theorem kcheck_01 (c : Conf) : kcheck c = 0 ∨ kcheck c = 2 := by
  unfold kcheck; split; exact .inr rfl; split; exact tenCheck_01 _ _; exact .inr rfl
theorem tenCheck_iff (g : Int) (ts : List Ten) : tenCheck g ts = 0 ↔ ∀ i, i < ts.length → tenOk g (tnth ts i) := by
  induction ts with
  | nil => exact ⟨fun _ i h => absurd h (Nat.not_lt_zero _), fun _ => rfl⟩
  | cons t r ih =>
    unfold tenCheck
    by_cases ht : tenOk g t
    · rw [if_pos ht, ih]
      constructor
      · intro h i hi
        cases i with
        | zero => exact ht
        | succ i => exact h i (by simpa using hi)
      · intro h i hi; exact h (i + 1) (by simpa using hi)
    · rw [if_neg ht]
      exact ⟨(fun h => by cases h), fun h => absurd (h 0 (by simp)) ht⟩
theorem kcheck_iff (c : Conf) : kcheck c = 0 ↔ KOk c := by
  unfold kcheck
  by_cases h0 : ccheck c.cl = 0
  · rw [if_neg (by omega)]
    by_cases h1 : headOk c
    · rw [if_pos h1, tenCheck_iff]
      exact ⟨fun h => ⟨ccheck_ok h0, h1, h⟩, fun h => h.ten⟩
    · rw [if_neg h1]
      exact ⟨(fun h => by cases h), fun h => absurd h.head h1⟩
  · rw [if_pos h0]
    exact ⟨(fun h => by cases h), fun h => absurd (ccheck_mk h.cl) h0⟩
theorem kcheck_ok {c : Conf} (h : kcheck c = 0) : KOk c := (kcheck_iff c).1 h

/-! ### What is told of a tenant and a class -/
def slotsOf (c : Conf) (t k : Nat) : Int := (tnth c.ts t).q / nth c.cl k
def perOf (c : Conf) (k : Nat) : Int := c.page / nth c.cl k
def pagesOf (c : Conf) (t k : Nat) : Int := (slotsOf c t k + perOf c k - 1) / perOf c k
def wordsOf (c : Conf) (t : Nat) : Int := sumTo (fun i => pagesOf c t i * c.page) c.cl.length
def baseOf (c : Conf) (t : Nat) : Int := sumTo (wordsOf c) t

def there (c : Conf) (t k : Int) : Prop := kcheck c = 0 ∧ 0 ≤ t ∧ t ≤ c.ts.length - 1 ∧ 0 ≤ k ∧ k ≤ c.cl.length - 1
instance (c : Conf) (t k : Int) : Decidable (there c t k) := by unfold there; infer_instance

def kslots (c : Conf) (t k : Int) : Int × Int := if there c t k then (slotsOf c t.toNat k.toNat, 0) else (0, 2)
def kpages (c : Conf) (t k : Int) : Int × Int := if there c t k then (pagesOf c t.toNat k.toNat, 0) else (0, 2)
def kregion (c : Conf) (t : Int) : Int × Int := if there c t 0 then (wordsOf c t.toNat, 0) else (0, 2)
def kbase (c : Conf) (t : Int) : Int × Int := if there c t 0 then (baseOf c t.toNat, 0) else (0, 2)
def ktotal (c : Conf) : Int × Int := if kcheck c = 0 then (baseOf c c.ts.length, 0) else (0, 2)

/-- The bounds on one tenant's one class. -/
structure Bounds (c : Conf) (t k : Nat) : Prop where
  c2 : 2 ≤ nth c.cl k
  c64 : nth c.cl k ≤ 64
  cpage : nth c.cl k ≤ c.page
  p64 : c.page ≤ 64
  cq : nth c.cl k ≤ (tnth c.ts t).q
  q4096 : (tnth c.ts t).q ≤ 4096
  per1 : 1 ≤ perOf c k
  per32 : perOf c k ≤ 32
  s1 : 1 ≤ slotsOf c t k
  s2048 : slotsOf c t k ≤ 2048
  pg1 : 1 ≤ pagesOf c t k
  pg2048 : pagesOf c t k ≤ 2048

theorem KOk.bounds {c : Conf} (h : KOk c) {t k : Nat} (ht : t < c.ts.length) (hk : k < c.cl.length) : Bounds c t k := by
  have a := h.cl.least k hk
  have b := h.cl.top k hk
  have g : nth c.cl k ≤ great c := by
    unfold great
    rcases Nat.lt_or_ge k (c.cl.length - 1) with c1 | c1
    · have := h.cl.inc k _ c1 (by omega); omega
    · have : k = c.cl.length - 1 := by omega
      rw [← this]; omega
  obtain ⟨g1, g2, _⟩ := h.head
  obtain ⟨q1, q2, _⟩ := h.ten t ht
  have per1 : 1 ≤ perOf c k := by
    unfold perOf; rw [Int.le_ediv_iff_mul_le (by omega)]; omega
  have per32 : perOf c k ≤ 32 := by
    unfold perOf
    have : c.page / nth c.cl k < 33 := by rw [Int.ediv_lt_iff_lt_mul (by omega)]; omega
    omega
  have s1 : 1 ≤ slotsOf c t k := by
    unfold slotsOf; rw [Int.le_ediv_iff_mul_le (by omega)]; omega
  have s2 : slotsOf c t k ≤ 2048 := by
    unfold slotsOf
    have : (tnth c.ts t).q / nth c.cl k < 2049 := by rw [Int.ediv_lt_iff_lt_mul (by omega)]; omega
    omega
  have pg1 : 1 ≤ pagesOf c t k := by
    unfold pagesOf; rw [Int.le_ediv_iff_mul_le (by omega)]; omega
  have pg2 : pagesOf c t k ≤ 2048 := by
    unfold pagesOf
    have : (slotsOf c t k + perOf c k - 1) / perOf c k < 2049 := by
      rw [Int.ediv_lt_iff_lt_mul (by omega)]
      have : 2048 * 1 ≤ 2048 * perOf c k := Int.mul_le_mul_of_nonneg_left per1 (by omega)
      omega
    omega
  exact ⟨a, b, by omega, g2, by omega, q2, per1, per32, s1, s2, pg1, pg2⟩

theorem KOk.page_bound {c : Conf} (h : KOk c) {t k : Nat} (ht : t < c.ts.length) (hk : k < c.cl.length) : 0 ≤ pagesOf c t k * c.page ∧ pagesOf c t k * c.page ≤ 131072 := by
  have b := h.bounds ht hk
  have b1 := b.pg1; have b2 := b.pg2048; have b3 := b.c2; have b4 := b.cpage; have b5 := b.p64
  constructor
  · exact Int.mul_nonneg (by omega) (by omega)
  · have := Int.mul_le_mul_of_nonneg_right (c := c.page) b2 (by omega)
    omega

theorem KOk.words_bound {c : Conf} (h : KOk c) {t : Nat} (ht : t < c.ts.length) : 0 ≤ wordsOf c t ∧ wordsOf c t ≤ 1048576 := by
  have := sumTo_bound (fun i => pagesOf c t i * c.page) 131072 c.cl.length (fun i hi => h.page_bound ht hi)
  have := h.cl.most
  unfold wordsOf
  omega
theorem KOk.base_bound {c : Conf} (h : KOk c) {t : Nat} (ht : t ≤ c.ts.length) : 0 ≤ baseOf c t ∧ baseOf c t ≤ 8388608 := by
  have := sumTo_bound (wordsOf c) 1048576 t (fun i hi => h.words_bound (by omega))
  obtain ⟨_, _, _, h8, _⟩ := h.head
  unfold baseOf
  omega

theorem there_nat {c : Conf} {t k : Int} (h : there c t k) : ∃ (i j : Nat), t = i ∧ k = j ∧ i < c.ts.length ∧ j < c.cl.length ∧ KOk c := by
  obtain ⟨h0, h1, h2, h3, h4⟩ := h
  exact ⟨t.toNat, k.toNat, by omega, by omega, by omega, by omega, kcheck_ok h0⟩
theorem there_mk {c : Conf} {i j : Nat} (h : kcheck c = 0) (hi : i < c.ts.length) (hj : j < c.cl.length) : there c i j := ⟨h, by omega, by omega, by omega, by omega⟩

theorem kslots_yes {c : Conf} {i j : Nat} (h : there c i j) : kslots c i j = (slotsOf c i j, 0) := by unfold kslots; rw [if_pos h]; rfl
theorem kpages_yes {c : Conf} {i j : Nat} (h : there c i j) : kpages c i j = (pagesOf c i j, 0) := by unfold kpages; rw [if_pos h]; rfl
theorem kregion_yes {c : Conf} {i : Nat} (h : there c i 0) : kregion c i = (wordsOf c i, 0) := by unfold kregion; rw [if_pos h]; rfl
theorem kbase_yes {c : Conf} {i : Nat} (h : there c i 0) : kbase c i = (baseOf c i, 0) := by unfold kbase; rw [if_pos h]; rfl
theorem kslots_no {c : Conf} {t k : Int} (h : ¬ there c t k) : kslots c t k = (0, 2) := by unfold kslots; rw [if_neg h]
theorem kpages_no {c : Conf} {t k : Int} (h : ¬ there c t k) : kpages c t k = (0, 2) := by unfold kpages; rw [if_neg h]
theorem kregion_no {c : Conf} {t : Int} (h : ¬ there c t 0) : kregion c t = (0, 2) := by unfold kregion; rw [if_neg h]
theorem kbase_no {c : Conf} {t : Int} (h : ¬ there c t 0) : kbase c t = (0, 2) := by unfold kbase; rw [if_neg h]

end Go.Proofs.YtlhajoamebfniaaDoor

/-! conf.Check, Slots, Pages, Region, Base, Total: each function hands back what its plain function computes, and leaves all that there was as it was. The configuration must lie in memory as read. -/
namespace Go.Proofs.YtlhajoamebfniaaDoor
open Go.RowKit

/-- Tenants in memory: four numbers each, one behind the other. -/
def TenAt (w : World) (a : Option Addr) (ts : List Ten) : Prop :=
  ∀ i, i < ts.length → ∃ b o, a = some ⟨b, o, none⟩ ∧ w.cell? ⟨b, o + i * 4, none⟩ = some (.int .i64 (tnth ts i).q) ∧ w.cell? ⟨b, o + i * 4 + 1, none⟩ = some (.int .i64 (tnth ts i).tr) ∧
    w.cell? ⟨b, o + i * 4 + 2, none⟩ = some (.int .i64 (tnth ts i).cp) ∧ w.cell? ⟨b, o + i * 4 + 3, none⟩ = some (.int .i64 (tnth ts i).sst)

theorem TenAt.ext {w w' : World} {a : Option Addr} {ts : List Ten} (h : TenAt w a ts) (hx : Ext w w') : TenAt w' a ts := by
  intro i hi
  obtain ⟨b, o, e, h0, h1, h2, h3⟩ := h i hi
  exact ⟨b, o, e, hx.cell h0, hx.cell h1, hx.cell h2, hx.cell h3⟩

theorem TenAt.pos {w : World} {a : Option Addr} {ts : List Ten} (h : TenAt w a ts) (h0 : 0 < ts.length) :
    ∃ b o, a = some ⟨b, o, none⟩ ∧ ∀ i, i < ts.length → w.cell? ⟨b, o + i * 4, none⟩ = some (.int .i64 (tnth ts i).q) ∧ w.cell? ⟨b, o + i * 4 + 1, none⟩ = some (.int .i64 (tnth ts i).tr) ∧
    w.cell? ⟨b, o + i * 4 + 2, none⟩ = some (.int .i64 (tnth ts i).cp) ∧ w.cell? ⟨b, o + i * 4 + 3, none⟩ = some (.int .i64 (tnth ts i).sst) := by
  obtain ⟨b, o, rfl, _⟩ := h 0 h0
  refine ⟨b, o, rfl, fun i hi => ?_⟩
  obtain ⟨b', o', e, hc⟩ := h i hi
  cases e; exact hc

/-- A configuration in memory. -/
structure CfgAt (w : World) (ca ta : Option Addr) (cc tc : Nat) (c : Conf) : Prop where
  cl : At .i64 w ca c.cl
  ts : TenAt w ta c.ts
  cm : c.cl.length ≤ maxLen
  tm : c.ts.length ≤ maxLen
  ccap : c.cl.length ≤ cc
  tcap : c.ts.length ≤ tc
  ccm : cc ≤ maxLen
  tcm : tc ≤ maxLen
theorem CfgAt.ext {w w' : World} {ca ta : Option Addr} {cc tc : Nat} {c : Conf} (h : CfgAt w ca ta cc tc c) (hx : Ext w w') : CfgAt w' ca ta cc tc c := ⟨h.cl.ext hx, h.ts.ext hx, h.cm, h.tm, h.ccap, h.tcap, h.ccm, h.tcm⟩

/-- The six cells of a box, still there. -/
theorem box6 {w w1 : World} {v0 v1 v2 v3 v4 v5 : Value} {t : TypeId} (hx : Ext (w.alloc (.cells #[v0, v1, v2, v3, v4, v5] t)) w1) :
    w1.cell? ⟨w.heap.size, 0, none⟩ = some v0 ∧ w1.cell? ⟨w.heap.size, 1, none⟩ = some v1 ∧ w1.cell? ⟨w.heap.size, 2, none⟩ = some v2 ∧ w1.cell? ⟨w.heap.size, 3, none⟩ = some v3 ∧
    w1.cell? ⟨w.heap.size, 4, none⟩ = some v4 ∧ w1.cell? ⟨w.heap.size, 5, none⟩ = some v5 :=
  ⟨hx.cell (cell_newN w _ t 0), hx.cell (cell_newN w _ t 1), hx.cell (cell_newN w _ t 2), hx.cell (cell_newN w _ t 3), hx.cell (cell_newN w _ t 4), hx.cell (cell_newN w _ t 5)⟩

/-! ### conf.within -/
set_option maxHeartbeats 1000000 in
theorem conf_within (a : Option Addr) (cap : Nat) (l : List Int) (w : World) (h : At .i64 w a l) (hl : l.length ≤ 1000) :
    Calls Tryd.prog 107 #[.slice a l.length cap] w fun e w' => e = .returned (.bool (wthn l)) ∧ Ext w w' := by
  by_cases h0 : l.length < 3
  · have E := Lib.hid (wthn_short h0)
    clear h
    go_enter Tryd.func107, Tryd.ntmps107
    go_wp2_with fail
    go_loopw [3] (fun i wr => i = .int .i64 0 ∧ Ext w wr) (fun _ _ => 0)
    case atStart => exact ⟨rfl, Ext.refl _⟩
    case round =>
      obtain ⟨rfl, hw⟩ := hrel
      go_wp2_with fail
      go_ret
      exact ⟨by rw [E.out]; rfl, hw⟩
  · obtain ⟨b, o, rfl, hc⟩ := h.pos (by omega)
    clear h
    have HC := Lib.hid hc; clear hc
    go_enter Tryd.func107, Tryd.ntmps107
    go_wp2_with fail
    go_loopw [3] (fun i wr => ∃ k : Nat, k ≤ l.length ∧ i = .int .i64 k ∧ Hid (wthn l = wthn (l.drop k)) ∧ Ext w wr) (fun i _ => l.length - (intOf i).toNat)
    case atStart => exact ⟨0, Nat.zero_le _, rfl, rfl, Ext.refl _⟩
    case round =>
      obtain ⟨k, hk, rfl, HE, hw⟩ := hrel
      by_cases hlt : k + 2 < l.length
      · have hc0 := hw.cell (HC.out k (by omega))
        have hc1 := hw.cell (HC.out (k + 1) (by omega))
        have hc2 := hw.cell (HC.out (k + 2) (by omega))
        have hd : wthn l = if nth l (k + 1) < nth l k ∨ nth l (k + 2) < nth l (k + 1) then false else wthn (l.drop (k + 3)) := by
          rw [HE.out, drop_nth l k (by omega), drop_nth l (k + 1) (by omega), drop_nth l (k + 2) (by omega), wthn_step]
        have HD := Lib.hid hd; clear hd
        by_cases hb1 : nth l (k + 1) < nth l k
        · go_wp2_with fail
          go_quiet (fail)
          go_wp2_with fail
          go_ret
          exact ⟨by rw [HD.out, if_pos (.inl hb1)]; rfl, hw.drewN _⟩
        · have hd1 : decide (nth l (k + 1) < nth l k) = false := by simpa using hb1
          by_cases hb2 : nth l (k + 2) < nth l (k + 1)
          · go_wp2_with fail
            go_quiet (fail)
            go_wp2_with fail
            go_ret
            exact ⟨by rw [HD.out, if_pos (.inr hb2)]; rfl, hw.drewN _⟩
          · have hd2 : decide (nth l (k + 2) < nth l (k + 1)) = false := by simpa using hb2
            go_wp2_with fail
            go_quiet (fail)
            go_wp2_with fail
            go_roundw
            case rel => exact ⟨k + 3, by omega, by go_num, by unfold Hid; rw [HD.out, if_neg (by omega)], hw.drewN _⟩
            case measure => simp [intOf]; omega
      · have E := Lib.hid (HE.out.trans (wthn_short (by rw [List.length_drop]; omega)))
        go_wp2_with fail
        go_ret
        exact ⟨by rw [E.out]; rfl, hw⟩

/-! ### slices.Max of rising numbers -/
set_option maxHeartbeats 1000000 in
theorem slices_Max (a : Option Addr) (cap : Nat) (l : List Int) (w : World) (h : At .i64 w a l) (hl : l.length ≤ 1000) (h0 : 1 ≤ l.length) (hinc : ∀ i j, i < j → j < l.length → nth l i < nth l j) :
    Calls Tryd.prog 113 #[.slice a l.length cap] w fun e w' => e = .returned (.int .i64 (nth l (l.length - 1))) ∧ Ext w w' := by
  obtain ⟨b, o, rfl, hc⟩ := h.pos (by omega)
  clear h
  have hc0 := hc 0 (by omega)
  rw [Nat.add_zero] at hc0
  have HC := Lib.hid hc; clear hc
  have HI := Lib.hid hinc; clear hinc
  go_enter Tryd.func113, Tryd.ntmps113
  go_wp2_with fail
  clear hc0
  go_loopw [3, 4] (fun m i wr => ∃ k : Nat, 1 ≤ k ∧ k ≤ l.length ∧ i = .int .i64 k ∧ m = .int .i64 (nth l (k - 1)) ∧ Ext w wr) (fun _ i _ => l.length - (intOf i).toNat)
  case atStart => exact ⟨1, by omega, by omega, rfl, rfl, Ext.refl _⟩
  case round =>
    obtain ⟨k, hk1, hk, rfl, rfl, hw⟩ := hrel
    by_cases hlt : k < l.length
    · have hck := hw.cell (HC.out k hlt)
      have hin := HI.out (k - 1) k (by omega) hlt
      go_wp2_with fail
      go_roundw
      case rel => exact ⟨k + 1, by omega, by omega, by go_num, by simp, hw⟩
      case measure => simp [intOf]; omega
    · obtain rfl : k = l.length := by omega
      go_wp2_with fail
      go_ret
      exact ⟨rfl, hw⟩

/-! ### conf.sum, at any element type: a function value that answers numbers -/
def AnswersI (P : Program) (g : Nat) (cs : Array Value) (n : Nat) (f : Nat → Int) (w : World) : Prop :=
  ∀ i w', i < n → Ext w w' → Calls P g (#[.int .i64 i] ++ cs) w' fun e w'' => e = .returned (.int .i64 (f i)) ∧ Ext w' w''

set_option maxHeartbeats 1000000 in
theorem conf_sum_int (a : Option Addr) (n cap g : Nat) (cs : Array Value) (f : Nat → Int) (s : Int) (w : World) (hn : n ≤ 1000) (hp : AnswersI Tryd.prog g cs n f w) (hb : ∀ i, i < n → 0 ≤ f i ∧ f i ≤ 1048576) (hs : sumTo f n = s) (hk : Enters Tryd.prog g) :
    Calls Tryd.prog 108 #[.slice a n cap, .func (.func g) #[] cs] w fun e w' => e = .returned (.int .i64 s) ∧ Ext w w' := by
  unfold Enters at hk
  have HP := Lib.hid hp; have HB := Lib.hid hb; have HS := Lib.hid hs
  clear hp hb hs
  go_enter Tryd.func108, Tryd.ntmps108
  go_wp2_with fail
  go_loopw [5, 9] (fun u i wr => ∃ k : Nat, k ≤ n ∧ i = .int .i64 k ∧ u = .int .i64 (sumTo f k) ∧ Ext w wr) (fun _ i _ => n - (intOf i).toNat)
  case atStart => exact ⟨0, Nat.zero_le _, rfl, rfl, Ext.refl _⟩
  case round =>
    obtain ⟨k, hk1, rfl, rfl, hw⟩ := hrel
    by_cases hlt : k < n
    · have hv := HB.out k hlt
      have hu := sumTo_bound f 1048576 k (fun i hi => HB.out i (by omega))
      have hu2 : sumTo f (k + 1) = sumTo f k + f k := rfl
      have HU := Lib.hid hu2; clear hu2
      generalize sumTo f k = u at *
      generalize hv' : f k = v at *
      go_wp2_with fail
      refine (HP.out k _ hlt hw).mono ?_
      rw [hv']
      clear hv'
      rintro e w1 ⟨rfl, hw1⟩
      go_wp2_with fail
      go_roundw
      case rel => exact ⟨k + 1, by omega, by go_num, by rw [HU.out], hw.trans hw1⟩
      case measure => simp [intOf]; omega
    · obtain rfl : k = n := by omega
      go_wp2_with fail
      go_ret
      exact ⟨by rw [HS.out]; rfl, hw⟩

/-! ### conf.Check -/
theorem wthn_head (c : Conf) : wthn [great c, c.page, 64, 1, (c.ts.length : Int), 8, 0, c.wk, 8, 1, c.gr, 64, 1, c.gens, 2147483648] = decide (headOk c) := by
  rw [Bool.eq_iff_iff, decide_eq_true_iff]
  unfold headOk
  simp only [wthn]
  (repeat' split) <;> simp <;> omega
theorem wthn_ten (g : Int) (t : Ten) : wthn [g, t.q, 4096, 1, t.tr, 1048576, 1, t.cp, 1024, 0, t.sst, 1024] = decide (tenOk g t) := by
  rw [Bool.eq_iff_iff, decide_eq_true_iff]
  unfold tenOk
  simp only [wthn]
  (repeat' split) <;> simp <;> omega
theorem wthn_there (t k n m : Int) : wthn [0, t, n, 0, k, m] = decide (0 ≤ t ∧ t ≤ n ∧ 0 ≤ k ∧ k ≤ m) := by
  rw [Bool.eq_iff_iff, decide_eq_true_iff]
  simp only [wthn]
  (repeat' split) <;> simp <;> omega

theorem conf_within' {a : Option Addr} {cap : Nat} (l : List Int) (n : Nat) (b : Bool) {w : World} (hn : l.length = n) (hb : wthn l = b) (h : At .i64 w a l) (hl : l.length ≤ 1000) :
    Calls Tryd.prog 107 #[.slice a n cap] w fun e w' => e = .returned (.bool b) ∧ Ext w w' := by
  have := conf_within a cap l w h hl; rw [hb, hn] at this; exact this
theorem slices_Max' {a : Option Addr} {cap : Nat} (l : List Int) (m : Int) {w : World} (hm : nth l (l.length - 1) = m) (h : At .i64 w a l) (hc : COk l) :
    Calls Tryd.prog 113 #[.slice a l.length cap] w fun e w' => e = .returned (.int .i64 m) ∧ Ext w w' := by
  have := slices_Max a cap l w h (by have := hc.most; omega) hc.pos hc.inc; rw [hm] at this; exact this
theorem kcheck_head {c : Conf} (h0 : ccheck c.cl = 0) (h1 : ¬ headOk c) : kcheck c = 2 := by unfold kcheck; rw [if_neg (by omega), if_neg h1]
theorem kcheck_tens {c : Conf} (h0 : ccheck c.cl = 0) (h1 : headOk c) : kcheck c = tenCheck (great c) c.ts := by unfold kcheck; rw [if_neg (by omega), if_pos h1]
theorem kcheck_no {c : Conf} (h0 : ccheck c.cl ≠ 0) : kcheck c = 2 := by unfold kcheck; rw [if_pos h0]

set_option maxHeartbeats 2000000 in
theorem conf_Check (ca ta : Option Addr) (cc tc : Nat) (c : Conf) (w : World) (h : CfgAt w ca ta cc tc c) :
    Calls Tryd.prog 106 #[.agg #[.slice ca c.cl.length cc, .int .i64 c.page, .slice ta c.ts.length tc, .int .i64 c.wk, .int .i64 c.gr, .int .i64 c.gens]] w fun e w' => e = .returned (.int .i64 (kcheck c)) ∧ Ext w w' := by
  have h1 := Ext.refl (w.alloc (.cells #[.slice ca c.cl.length cc, .int .i64 c.page, .slice ta c.ts.length tc, .int .i64 c.wk, .int .i64 c.gr, .int .i64 c.gens] 25))
  have hx := (Ext.refl w).alloc (.cells #[.slice ca c.cl.length cc, .int .i64 c.page, .slice ta c.ts.length tc, .int .i64 c.wk, .int .i64 c.gr, .int .i64 c.gens] 25)
  have tm := h.tm
  unfold maxLen at tm
  have H := Lib.hid h; clear h
  by_cases h0 : ccheck c.cl = 0
  · have H0 := Lib.hid h0
    have HO := Lib.hid (ccheck_ok h0)
    clear h0
    go_enter Tryd.func106, Tryd.ntmps106
    go_wp2_with fail
    refine (class_Check' c.cl _ 0 rfl H0.out (H.out.cl.ext (hx.trans h1)) H.out.cm).mono ?_
    rintro e w1 ⟨rfl, h2⟩
    replace h1 := h1.trans h2
    clear h2
    obtain ⟨b0, b1, b2, b3, b4, b5⟩ := box6 h1
    go_wp2_with fail
    all_goals (try clear b0 b1 b2 b3 b4 b5)
    refine (slices_Max' c.cl (great c) rfl (H.out.cl.ext (hx.trans h1)) HO.out).mono ?_
    rintro e w2 ⟨rfl, h2⟩
    replace h1 := h1.trans h2
    clear h2
    obtain ⟨b0, b1, b2, b3, b4, b5⟩ := box6 h1
    go_wp2_with fail
    all_goals (try clear b0 b1 b2 b3 b4 b5)
    by_cases hh : headOk c
    · have E := Lib.hid (kcheck_tens H0.out hh)
      have t1 : 1 ≤ c.ts.length := hh.2.2.1
      have t8 : c.ts.length ≤ 8 := hh.2.2.2.1
      refine (conf_within' [great c, c.page, 64, 1, (c.ts.length : Int), 8, 0, c.wk, 8, 1, c.gr, 64, 1, c.gens, 2147483648] 15 true rfl (by rw [wthn_head]; simpa using hh) (At.new .i64 _ _ 3) (by simp)).mono ?_
      clear hh
      rintro e w3 ⟨rfl, h2⟩
      replace h1 := (h1.alloc _).trans h2
      clear h2
      obtain ⟨b0, b1, b2, b3, b4, b5⟩ := box6 h1
      go_wp2_with fail
      clear b0 b1 b2 b3 b4 b5
      obtain ⟨tb, to_, rfl, ht⟩ := H.out.ts.pos t1
      have HT := Lib.hid ht
      clear ht
      go_loopw [34] (fun i wr => ∃ k : Nat, k ≤ c.ts.length ∧ i = .int .i64 k ∧ Hid (tenCheck (great c) c.ts = tenCheck (great c) (c.ts.drop k)) ∧ Ext (w.alloc (.cells #[.slice ca c.cl.length cc, .int .i64 c.page, .slice (some ⟨tb, to_, none⟩) c.ts.length tc, .int .i64 c.wk, .int .i64 c.gr, .int .i64 c.gens] 25)) wr) (fun i _ => c.ts.length - (intOf i).toNat)
      case atStart => exact ⟨0, Nat.zero_le _, rfl, rfl, h1⟩
      case round =>
        clear h1
        obtain ⟨k, hk, rfl, HE, h1⟩ := hrel
        by_cases hlt : k < c.ts.length
        · obtain ⟨q0, q1, q2, q3⟩ := HT.out k hlt
          have hd : tenCheck (great c) c.ts = if tenOk (great c) (tnth c.ts k) then tenCheck (great c) (c.ts.drop (k + 1)) else 2 := by
            rw [HE.out, drop_tnth c.ts k hlt]; rfl
          have HD := Lib.hid hd
          clear hd
          have r0 := (hx.trans h1).cell q0
          have r1 := (hx.trans h1).cell q1
          have r2 := (hx.trans h1).cell q2
          have r3 := (hx.trans h1).cell q3
          clear q0 q1 q2 q3
          generalize tnth c.ts k = t at *
          go_wp2_with fail
          by_cases htn : tenOk (great c) t
          · refine (conf_within' [great c, t.q, 4096, 1, t.tr, 1048576, 1, t.cp, 1024, 0, t.sst, 1024] 12 true rfl (by rw [wthn_ten]; simpa using htn) (At.newb .i64 _ _ 3 _ (by simp)) (by simp)).mono ?_
            rw [if_pos htn] at HD
            clear htn
            rintro e w4 ⟨rfl, h2⟩
            replace h1 := ((h1.alloc _).alloc _).trans h2
            clear h2 r0 r1 r2 r3
            go_wp2_with fail
            go_roundw
            case rel => exact ⟨k + 1, by omega, by go_num, HD.out, h1⟩
            case measure => simp [intOf]; omega
          · refine (conf_within' [great c, t.q, 4096, 1, t.tr, 1048576, 1, t.cp, 1024, 0, t.sst, 1024] 12 false rfl (by rw [wthn_ten]; simpa using htn) (At.newb .i64 _ _ 3 _ (by simp)) (by simp)).mono ?_
            rw [if_neg htn] at HD
            clear htn
            rintro e w4 ⟨rfl, h2⟩
            replace h1 := ((h1.alloc _).alloc _).trans h2
            clear h2 r0 r1 r2 r3
            go_wp2_with fail
            go_ret
            exact ⟨by rw [E.out, HD.out]; rfl, hx.trans h1⟩
        · have E2 := Lib.hid (HE.out.trans (by rw [List.drop_of_length_le (by omega)]; rfl : tenCheck (great c) (c.ts.drop k) = 0))
          go_wp2_with fail
          go_ret
          exact ⟨by rw [E.out, E2.out]; rfl, hx.trans h1⟩
    · have E := Lib.hid (kcheck_head H0.out hh)
      refine (conf_within' [great c, c.page, 64, 1, (c.ts.length : Int), 8, 0, c.wk, 8, 1, c.gr, 64, 1, c.gens, 2147483648] 15 false rfl (by rw [wthn_head]; simpa using hh) (At.new .i64 _ _ 3) (by simp)).mono ?_
      clear hh
      rintro e w3 ⟨rfl, h2⟩
      replace h1 := (h1.alloc _).trans h2
      clear h2
      go_wp2_with fail
      go_ret
      exact ⟨by rw [E.out]; rfl, hx.trans h1⟩
  · have h2 : ccheck c.cl = 2 := (ccheck_01 _).resolve_left h0
    have E := Lib.hid (kcheck_no h0)
    have H2 := Lib.hid h2
    clear h0 h2
    go_enter Tryd.func106, Tryd.ntmps106
    go_wp2_with fail
    refine (class_Check' c.cl _ 2 rfl H2.out (H.out.cl.ext (hx.trans h1)) H.out.cm).mono ?_
    rintro e w3 ⟨rfl, h2⟩
    replace h1 := h1.trans h2
    clear h2
    obtain ⟨b0, b1, b2, b3, b4, b5⟩ := box6 h1
    go_wp2_with fail
    all_goals (try clear b0 b1 b2 b3 b4 b5)
    go_ret
    exact ⟨by rw [E.out]; rfl, hx.trans h1⟩

theorem conf_Check' {ca ta : Option Addr} {cc tc : Nat} (c : Conf) (p : Int) {w : World} (hp : kcheck c = p) (h : CfgAt w ca ta cc tc c) :
    Calls Tryd.prog 106 #[.agg #[.slice ca c.cl.length cc, .int .i64 c.page, .slice ta c.ts.length tc, .int .i64 c.wk, .int .i64 c.gr, .int .i64 c.gens]] w fun e w' => e = .returned (.int .i64 p) ∧ Ext w w' := hp ▸ conf_Check ca ta cc tc c w h

/-! ### conf.there, Slots, Pages -/
set_option maxHeartbeats 2000000 in
theorem conf_there {ca ta : Option Addr} {cc tc : Nat} (c : Conf) (t k : Int) (b : Bool) {w : World} (hb : decide (there c t k) = b) (h : CfgAt w ca ta cc tc c) :
    Calls Tryd.prog 100 #[.agg #[.slice ca c.cl.length cc, .int .i64 c.page, .slice ta c.ts.length tc, .int .i64 c.wk, .int .i64 c.gr, .int .i64 c.gens], .int .i64 t, .int .i64 k] w fun e w' => e = .returned (.bool b) ∧ Ext w w' := by
  have h1 := Ext.refl (w.alloc (.cells #[.slice ca c.cl.length cc, .int .i64 c.page, .slice ta c.ts.length tc, .int .i64 c.wk, .int .i64 c.gr, .int .i64 c.gens] 25))
  have hx := (Ext.refl w).alloc (.cells #[.slice ca c.cl.length cc, .int .i64 c.page, .slice ta c.ts.length tc, .int .i64 c.wk, .int .i64 c.gr, .int .i64 c.gens] 25)
  have H := Lib.hid h; clear h
  by_cases h0 : kcheck c = 0
  · have ho := kcheck_ok h0
    have c1 := ho.cl.pos
    have c8 := ho.cl.most
    have t1 := ho.head.2.2.1
    have t8 := ho.head.2.2.2.1
    have hw : wthn [0, t, (c.ts.length : Int) - 1, 0, k, (c.cl.length : Int) - 1] = b := by
      rw [wthn_there, ← hb]; unfold there; simp [h0]
    have HW := Lib.hid hw
    have H0 := Lib.hid h0
    clear h0 ho hw hb
    go_enter Tryd.func100, Tryd.ntmps100
    go_wp2_with fail
    refine (conf_Check' c 0 H0.out (H.out.ext (hx.trans h1))).mono ?_
    rintro e w1 ⟨rfl, h2⟩
    replace h1 := h1.trans h2
    clear h2
    obtain ⟨b0, b1, b2, b3, b4, b5⟩ := box6 h1
    go_wp2_with fail
    all_goals (try clear b0 b1 b2 b3 b4 b5)
    refine (conf_within' [0, t, (c.ts.length : Int) - 1, 0, k, (c.cl.length : Int) - 1] 6 b rfl HW.out (At.new .i64 _ _ 3) (by simp)).mono ?_
    rintro e w3 ⟨rfl, h2⟩
    replace h1 := (h1.alloc _).trans h2
    clear h2
    go_wp2_with fail
    go_ret
    exact ⟨rfl, hx.trans h1⟩
  · have h2 : kcheck c = 2 := (kcheck_01 _).resolve_left h0
    obtain rfl : b = false := by rw [← hb]; simp [there, h0]
    have H2 := Lib.hid h2
    clear h0 h2 hb
    go_enter Tryd.func100, Tryd.ntmps100
    go_wp2_with fail
    refine (conf_Check' c 2 H2.out (H.out.ext (hx.trans h1))).mono ?_
    rintro e w2 ⟨rfl, h2⟩
    replace h1 := h1.trans h2
    clear h2
    obtain ⟨b0, b1, b2, b3, b4, b5⟩ := box6 h1
    go_wp2_with fail
    all_goals (try clear b0 b1 b2 b3 b4 b5)
    go_ret
    exact ⟨rfl, hx.trans h1⟩

set_option maxHeartbeats 2000000 in
theorem conf_Slots {ca ta : Option Addr} {cc tc : Nat} (c : Conf) (t k p q : Int) {w : World} (hpq : kslots c t k = (p, q)) (h : CfgAt w ca ta cc tc c) :
    Calls Tryd.prog 83 #[.agg #[.slice ca c.cl.length cc, .int .i64 c.page, .slice ta c.ts.length tc, .int .i64 c.wk, .int .i64 c.gr, .int .i64 c.gens], .int .i64 t, .int .i64 k] w fun e w' => e = .returned (.tuple #[.int .i64 p, .int .i64 q]) ∧ Ext w w' := by
  have h1 := Ext.refl (w.alloc (.cells #[.slice ca c.cl.length cc, .int .i64 c.page, .slice ta c.ts.length tc, .int .i64 c.wk, .int .i64 c.gr, .int .i64 c.gens] 25))
  have hx := (Ext.refl w).alloc (.cells #[.slice ca c.cl.length cc, .int .i64 c.page, .slice ta c.ts.length tc, .int .i64 c.wk, .int .i64 c.gr, .int .i64 c.gens] 25)
  have H := Lib.hid h; clear h
  by_cases hth : there c t k
  · obtain ⟨i, j, rfl, rfl, hi, hj, ho⟩ := there_nat hth
    rw [kslots_yes hth] at hpq
    obtain ⟨rfl, rfl⟩ : slotsOf c i j = p ∧ 0 = q := by simpa using hpq
    clear hpq
    have c8 := ho.cl.most
    have t8 := ho.head.2.2.2.1
    have bd := ho.bounds hi hj
    have u1 := bd.c2; have u2 := bd.cq; have u3 := bd.q4096; have u4 := bd.c64
    have HS := Lib.hid (show slotsOf c i j = (tnth c.ts i).q / nth c.cl j from rfl)
    have HTH := Lib.hid (show decide (there c i j) = true by simpa using hth)
    obtain ⟨cb, co, rfl, hc⟩ := H.out.cl.pos (by omega)
    obtain ⟨tb, to_, rfl, ht⟩ := H.out.ts.pos (by omega)
    have hcj := hc j hj
    have hti := (ht i hi).1
    clear hc ht bd ho hth
    generalize slotsOf c i j = s at *
    generalize nth c.cl j = x at *
    generalize (tnth c.ts i).q = y at *
    go_enter Tryd.func83, Tryd.ntmps83
    go_wp2_with fail
    refine (conf_there c _ _ true HTH.out (H.out.ext (hx.trans h1))).mono ?_
    rintro e w1 ⟨rfl, h2⟩
    replace h1 := h1.trans h2
    clear h2
    obtain ⟨b0, b1, b2, b3, b4, b5⟩ := box6 h1
    go_wp2_with fail
    all_goals (try clear b0 b1 b2 b3 b4 b5)
    obtain ⟨b0, b1, b2, b3, b4, b5⟩ := box6 h1
    have z1 := (hx.trans h1).cell hcj
    have z2 := (hx.trans h1).cell hti
    clear hcj hti
    go_quiet (fail)
    go_wp2_with fail
    go_ret2
    exact ⟨by rw [HS.out]; rfl, (hx.trans h1).drewN _⟩
  · rw [kslots_no hth] at hpq
    obtain ⟨rfl, rfl⟩ : 0 = p ∧ 2 = q := by simpa using hpq
    have HTH := Lib.hid (show decide (there c t k) = false by simpa using hth)
    clear hpq hth
    go_enter Tryd.func83, Tryd.ntmps83
    go_wp2_with fail
    refine (conf_there c _ _ false HTH.out (H.out.ext (hx.trans h1))).mono ?_
    rintro e w2 ⟨rfl, h2⟩
    replace h1 := h1.trans h2
    clear h2
    obtain ⟨b0, b1, b2, b3, b4, b5⟩ := box6 h1
    go_wp2_with fail
    all_goals (try clear b0 b1 b2 b3 b4 b5)
    go_ret2
    exact ⟨rfl, hx.trans h1⟩

theorem pages_bd {c : Conf} {i j : Nat} (bd : Bounds c i j) : 0 ≤ slotsOf c i j + perOf c j - 1 := by have := bd.s1; have := bd.per1; omega

set_option maxHeartbeats 2000000 in
theorem conf_Pages {ca ta : Option Addr} {cc tc : Nat} (c : Conf) (t k p q : Int) {w : World} (hpq : kpages c t k = (p, q)) (h : CfgAt w ca ta cc tc c) :
    Calls Tryd.prog 84 #[.agg #[.slice ca c.cl.length cc, .int .i64 c.page, .slice ta c.ts.length tc, .int .i64 c.wk, .int .i64 c.gr, .int .i64 c.gens], .int .i64 t, .int .i64 k] w fun e w' => e = .returned (.tuple #[.int .i64 p, .int .i64 q]) ∧ Ext w w' := by
  have h1 := Ext.refl (w.alloc (.cells #[.slice ca c.cl.length cc, .int .i64 c.page, .slice ta c.ts.length tc, .int .i64 c.wk, .int .i64 c.gr, .int .i64 c.gens] 25))
  have hx := (Ext.refl w).alloc (.cells #[.slice ca c.cl.length cc, .int .i64 c.page, .slice ta c.ts.length tc, .int .i64 c.wk, .int .i64 c.gr, .int .i64 c.gens] 25)
  have H := Lib.hid h; clear h
  by_cases hth : there c t k
  · obtain ⟨i, j, rfl, rfl, hi, hj, ho⟩ := there_nat hth
    have HSL := Lib.hid (kslots_yes hth)
    rw [kpages_yes hth] at hpq
    obtain ⟨rfl, rfl⟩ : pagesOf c i j = p ∧ 0 = q := by simpa using hpq
    clear hpq
    have c8 := ho.cl.most
    have bd := ho.bounds hi hj
    have u1 := bd.c2; have u2 := bd.cpage; have u3 := bd.p64; have u4 := bd.c64; have u5 := bd.s1; have u6 := bd.s2048; have u7 := bd.per1; have u8 := bd.per32
    have HS := Lib.hid (show pagesOf c i j = (slotsOf c i j + perOf c j - 1) / perOf c j from rfl)
    have HP := Lib.hid (show c.page / nth c.cl j = perOf c j from rfl)
    obtain ⟨cb, co, rfl, hc⟩ := H.out.cl.pos (by omega)
    have hcj := hc j hj
    clear hc bd ho hth
    generalize pagesOf c i j = pg at *
    generalize slotsOf c i j = s at *
    generalize perOf c j = pe at *
    generalize nth c.cl j = x at *
    go_enter Tryd.func84, Tryd.ntmps84
    go_wp2_with fail
    refine (conf_Slots c _ _ _ _ HSL.out (H.out.ext (hx.trans h1))).mono ?_
    rintro e w1 ⟨rfl, h2⟩
    replace h1 := h1.trans h2
    clear h2
    obtain ⟨b0, b1, b2, b3, b4, b5⟩ := box6 h1
    go_wp2_with fail
    all_goals (try clear b0 b1 b2 b3 b4 b5)
    obtain ⟨b0, b1, b2, b3, b4, b5⟩ := box6 h1
    have z1 := (hx.trans h1).cell hcj
    clear hcj
    go_quiet (fail)
    rw [HP.out]
    go_wp2_with fail
    go_ret2
    exact ⟨by rw [HS.out]; rfl, (hx.trans h1).drewN _⟩
  · have HSL := Lib.hid (kslots_no hth)
    rw [kpages_no hth] at hpq
    obtain ⟨rfl, rfl⟩ : 0 = p ∧ 2 = q := by simpa using hpq
    clear hpq hth
    go_enter Tryd.func84, Tryd.ntmps84
    go_wp2_with fail
    refine (conf_Slots c _ _ _ _ HSL.out (H.out.ext (hx.trans h1))).mono ?_
    rintro e w2 ⟨rfl, h2⟩
    replace h1 := h1.trans h2
    clear h2
    obtain ⟨b0, b1, b2, b3, b4, b5⟩ := box6 h1
    go_wp2_with fail
    all_goals (try clear b0 b1 b2 b3 b4 b5)
    go_ret2
    exact ⟨rfl, hx.trans h1⟩

/-! ### conf.words, Region, Base, Total -/
theorem enters_words1 : Enters Tryd.prog 109 := Enters.mk Tryd.func109 (by kernel_rfl) rfl
/-- The six cells of a configuration at an address. -/
structure CBox (w : World) (b : Nat) (ca ta : Option Addr) (cc tc : Nat) (c : Conf) : Prop where
  b0 : w.cell? ⟨b, 0, none⟩ = some (.slice ca c.cl.length cc)
  b1 : w.cell? ⟨b, 1, none⟩ = some (.int .i64 c.page)
  b2 : w.cell? ⟨b, 2, none⟩ = some (.slice ta c.ts.length tc)
  b3 : w.cell? ⟨b, 3, none⟩ = some (.int .i64 c.wk)
  b4 : w.cell? ⟨b, 4, none⟩ = some (.int .i64 c.gr)
  b5 : w.cell? ⟨b, 5, none⟩ = some (.int .i64 c.gens)
theorem CBox.ext {w w' : World} {b : Nat} {ca ta : Option Addr} {cc tc : Nat} {c : Conf} (h : CBox w b ca ta cc tc c) (hx : Ext w w') : CBox w' b ca ta cc tc c :=
  ⟨hx.cell h.b0, hx.cell h.b1, hx.cell h.b2, hx.cell h.b3, hx.cell h.b4, hx.cell h.b5⟩
theorem CBox.of {w w1 : World} {ca ta : Option Addr} {cc tc : Nat} {c : Conf} (hx : Ext (w.alloc (.cells #[.slice ca c.cl.length cc, .int .i64 c.page, .slice ta c.ts.length tc, .int .i64 c.wk, .int .i64 c.gr, .int .i64 c.gens] 25)) w1) : CBox w1 w.heap.size ca ta cc tc c := by
  obtain ⟨b0, b1, b2, b3, b4, b5⟩ := box6 hx
  exact ⟨b0, b1, b2, b3, b4, b5⟩

set_option maxHeartbeats 2000000 in
theorem conf_words1 {ca ta : Option Addr} {cc tc : Nat} (c : Conf) (i j : Nat) (p : Int) (cb : Nat) (tp : Addr) {w : World} (hp : pagesOf c i j * c.page = p) (ho : KOk c) (hi : i < c.ts.length) (hj : j < c.cl.length)
    (hb : CBox w cb ca ta cc tc c) (ht : w.cell? tp = some (.int .i64 i)) (h : CfgAt w ca ta cc tc c) :
    Calls Tryd.prog 109 #[.int .i64 j, .pointer (some ⟨cb, 0, none⟩), .pointer (some tp)] w fun e w' => e = .returned (.int .i64 p) ∧ Ext w w' := by
  have bd := ho.bounds hi hj
  have u1 := bd.pg1; have u2 := bd.pg2048; have u3 := bd.c2; have u4 := bd.cpage; have u5 := bd.p64
  have pb := ho.page_bound hi hj
  rw [hp] at pb
  have HPG := Lib.hid (kpages_yes (there_mk ((kcheck_iff c).2 ho) hi hj))
  have H := Lib.hid h; have HB := Lib.hid hb; have HP := Lib.hid hp
  obtain ⟨b0, b1, b2, b3, b4, b5⟩ := hb
  clear h ho bd hp
  generalize nth c.cl j = x at *
  generalize pagesOf c i j = pg at *
  have h1 := Ext.refl w
  have HR := Lib.hid (show IntKind.i64.wrap (pg * c.page) = p by rw [HP.out]; exact IntWalk.i64_in _ (by omega))
  go_enter Tryd.func109, Tryd.ntmps109
  go_wp2_with fail
  refine (conf_Pages c _ _ _ _ HPG.out H.out).mono ?_
  clear b0 b1 b2 b3 b4 b5 ht
  rintro e w1 ⟨rfl, h2⟩
  have hb1 := (HB.out.ext h2).b1
  have hr := HR.out
  go_wp2_with fail
  go_ret
  exact ⟨rfl, h2⟩

set_option maxHeartbeats 2000000 in
theorem conf_words {ca ta : Option Addr} {cc tc : Nat} (c : Conf) (i : Nat) (p : Int) {w : World} (hp : wordsOf c i = p) (ho : KOk c) (hi : i < c.ts.length) (h : CfgAt w ca ta cc tc c) :
    Calls Tryd.prog 101 #[.agg #[.slice ca c.cl.length cc, .int .i64 c.page, .slice ta c.ts.length tc, .int .i64 c.wk, .int .i64 c.gr, .int .i64 c.gens], .int .i64 i] w fun e w' => e = .returned (.int .i64 p) ∧ Ext w w' := by
  have hx := ((Ext.refl w).alloc (.cells #[.slice ca c.cl.length cc, .int .i64 c.page, .slice ta c.ts.length tc, .int .i64 c.wk, .int .i64 c.gr, .int .i64 c.gens] 25)).alloc (.cells #[.int .i64 i] 3)
  have hA : AnswersI Tryd.prog 109 #[.pointer (some ⟨w.heap.size, 0, none⟩), .pointer (some ⟨w.heap.size + 1, 0, none⟩)] c.cl.length (fun j => pagesOf c i j * c.page) ((w.alloc (.cells #[.slice ca c.cl.length cc, .int .i64 c.page, .slice ta c.ts.length tc, .int .i64 c.wk, .int .i64 c.gr, .int .i64 c.gens] 25)).alloc (.cells #[.int .i64 i] 3)) := by
    intro j w' hj hw'
    exact conf_words1 c i j _ _ _ rfl ho hi hj (CBox.of (((Ext.refl _).alloc _).trans hw')) (hw'.cell (by simp)) (h.ext (hx.trans hw'))
  have SS := Lib.hid (conf_sum_int ca c.cl.length cc _ _ _ p _ (by have := ho.cl.most; omega) hA (fun j hj => by have := ho.page_bound hi hj; omega) hp enters_words1)
  clear h ho hA hp
  go_enter Tryd.func101, Tryd.ntmps101
  go_wp2_with fail
  refine SS.out.mono ?_
  rintro e w1 ⟨rfl, h2⟩
  go_wp2_with fail
  go_ret
  exact ⟨rfl, hx.trans h2⟩

set_option maxHeartbeats 2000000 in
theorem conf_Region {ca ta : Option Addr} {cc tc : Nat} (c : Conf) (t p q : Int) {w : World} (hpq : kregion c t = (p, q)) (h : CfgAt w ca ta cc tc c) :
    Calls Tryd.prog 82 #[.agg #[.slice ca c.cl.length cc, .int .i64 c.page, .slice ta c.ts.length tc, .int .i64 c.wk, .int .i64 c.gr, .int .i64 c.gens], .int .i64 t] w fun e w' => e = .returned (.tuple #[.int .i64 p, .int .i64 q]) ∧ Ext w w' := by
  have h1 := Ext.refl (w.alloc (.cells #[.slice ca c.cl.length cc, .int .i64 c.page, .slice ta c.ts.length tc, .int .i64 c.wk, .int .i64 c.gr, .int .i64 c.gens] 25))
  have hx := (Ext.refl w).alloc (.cells #[.slice ca c.cl.length cc, .int .i64 c.page, .slice ta c.ts.length tc, .int .i64 c.wk, .int .i64 c.gr, .int .i64 c.gens] 25)
  have H := Lib.hid h; clear h
  by_cases hth : there c t 0
  · obtain ⟨i, j, rfl, hz, hi, hj, ho⟩ := there_nat hth
    rw [kregion_yes hth] at hpq
    obtain ⟨rfl, rfl⟩ : wordsOf c i = p ∧ 0 = q := by simpa using hpq
    have HTH := Lib.hid (show decide (there c i 0) = true by simpa using hth)
    have HO := Lib.hid ho
    clear hpq hz hth ho hj
    generalize hg : wordsOf c i = s at *
    have HG := Lib.hid hg; clear hg
    go_enter Tryd.func82, Tryd.ntmps82
    go_wp2_with fail
    refine (conf_there c _ _ true HTH.out (H.out.ext (hx.trans h1))).mono ?_
    rintro e w1 ⟨rfl, h2⟩
    replace h1 := h1.trans h2
    clear h2
    obtain ⟨b0, b1, b2, b3, b4, b5⟩ := box6 h1
    go_wp2_with fail
    all_goals (try clear b0 b1 b2 b3 b4 b5)
    refine (conf_words c i s HG.out HO.out hi (H.out.ext (hx.trans h1))).mono ?_
    rintro e w2 ⟨rfl, h2⟩
    replace h1 := h1.trans h2
    clear h2
    go_wp2_with fail
    go_ret2
    exact ⟨rfl, hx.trans h1⟩
  · rw [kregion_no hth] at hpq
    obtain ⟨rfl, rfl⟩ : 0 = p ∧ 2 = q := by simpa using hpq
    have HTH := Lib.hid (show decide (there c t 0) = false by simpa using hth)
    clear hpq hth
    go_enter Tryd.func82, Tryd.ntmps82
    go_wp2_with fail
    refine (conf_there c _ _ false HTH.out (H.out.ext (hx.trans h1))).mono ?_
    rintro e w3 ⟨rfl, h2⟩
    replace h1 := h1.trans h2
    clear h2
    obtain ⟨b0, b1, b2, b3, b4, b5⟩ := box6 h1
    go_wp2_with fail
    all_goals (try clear b0 b1 b2 b3 b4 b5)
    go_ret2
    exact ⟨rfl, hx.trans h1⟩

theorem CBox.load {w : World} {b : Nat} {ca ta : Option Addr} {cc tc : Nat} {c : Conf} (h : CBox w b ca ta cc tc c) : w.cell? ⟨b, 0, none⟩ = some (.slice ca c.cl.length cc) := h.b0

end Go.Proofs.YtlhajoamebfniaaDoor
