/-
  Merged texts: ExC, SlotP, OwnI, SlotA, SlotB, SlotC, SlotD, NextU, SlotE.
-/
import Derived.Test.YtlhajoamebfniaaDoorG02
import Derived.Test.YtlhajoamebfniaaDoorG01
import Derived.Laws.AppendOwn
import Derived.Laws.OwnMore
import Derived.OwnWalk
import Derived.ArgAppend
import Derived.Deep.AppendLies
import Derived.Deep.RegionHeld3
import Derived.Shelf.Abstract
import Derived.WalkKit
import Derived.RangeFuncNested
import Derived.RangeFuncBound
import Derived.RangeFuncCalls
import Derived.RangeFuncLeaves
import Derived.Shelf.RegionOpen
import Derived.OwnWalkIn
import Derived.TacticsInMore
import Derived.LoopNIn
import Derived.LoopIn
import Derived.Stop.RegionWithIn
set_option linter.unusedVariables false
set_option linter.unusedSimpArgs false
/-! The document's example of a configuration, as data and in the memory. -/
namespace Go.Proofs.YtlhajoamebfniaaDoor
open Go.RowKit

def exC : Conf := ⟨[2, 4], 8, [⟨20, 8, 4, 1⟩, ⟨4, 1, 1, 0⟩], 1, 2, 3⟩

theorem TenAt.newb (w : World) (ts : List Ten) (vs : Array Value) (t : TypeId) (b : Nat) (hb : w.heap.size = b) (h : ∀ i, i < ts.length → vs[i * 4]? = some (.int .i64 (tnth ts i).q) ∧ vs[i * 4 + 1]? = some (.int .i64 (tnth ts i).tr) ∧ vs[i * 4 + 2]? = some (.int .i64 (tnth ts i).cp) ∧ vs[i * 4 + 3]? = some (.int .i64 (tnth ts i).sst)) :
    TenAt (w.alloc (.cells vs t)) (some ⟨b, 0, none⟩) ts := by
  subst hb
  intro i hi
  obtain ⟨h0, h1, h2, h3⟩ := h i hi
  refine ⟨_, 0, rfl, ?_, ?_, ?_, ?_⟩
  · rw [Nat.zero_add, cell_newN]; exact h0
  · rw [Nat.zero_add, cell_newN]; exact h1
  · rw [Nat.zero_add, cell_newN]; exact h2
  · rw [Nat.zero_add, cell_newN]; exact h3

def IsExample (w : World) (e : Ending) (w' : World) : Prop :=
  ∃ ca ta, e = .returned (.agg #[.slice ca 2 2, .int .i64 8, .slice ta 2 2, .int .i64 1, .int .i64 2, .int .i64 3]) ∧ CfgAt w' ca ta 2 2 exC ∧ Ext w w'

theorem CBox.mk6 {w : World} {b : Nat} {ca ta : Option Addr} {cc tc : Nat} {c : Conf} (h0 : w.cell? ⟨b, 0, none⟩ = some (.slice ca c.cl.length cc)) (h1 : w.cell? ⟨b, 1, none⟩ = some (.int .i64 c.page))
    (h2 : w.cell? ⟨b, 2, none⟩ = some (.slice ta c.ts.length tc)) (h3 : w.cell? ⟨b, 3, none⟩ = some (.int .i64 c.wk)) (h4 : w.cell? ⟨b, 4, none⟩ = some (.int .i64 c.gr)) (h5 : w.cell? ⟨b, 5, none⟩ = some (.int .i64 c.gens)) : CBox w b ca ta cc tc c := ⟨h0, h1, h2, h3, h4, h5⟩


end Go.Proofs.YtlhajoamebfniaaDoor

/-! Plans in plain Lean: where a tenant's slots lie. No program is named here. -/
namespace Go.Proofs.YtlhajoamebfniaaDoor

theorem sumTo_succ (f : Nat → Int) (n : Nat) : sumTo f (n + 1) = sumTo f n + f n := rfl
theorem sumTo_up {f : Nat → Int} {n : Nat} (h : ∀ i, i < n → 1 ≤ f i) (a : Nat) : ∀ d, a + d ≤ n → sumTo f a + d ≤ sumTo f (a + d)
  | 0, _ => by simp
  | d + 1, hd => by
    have h1 := sumTo_up h a d (by omega)
    have h2 := h (a + d) (by omega)
    rw [← Nat.add_assoc, sumTo_succ]
    omega
theorem sumTo_lt {f : Nat → Int} {n a b : Nat} (h : ∀ i, i < n → 1 ≤ f i) (hab : a ≤ b) (hb : b ≤ n) : sumTo f a + ((b - a : Nat) : Int) ≤ sumTo f b := by
  have := sumTo_up h a (b - a) (by omega)
  rwa [show a + (b - a) = b by omega] at this
theorem sum_find {f : Nat → Int} {s : Int} (h0 : 0 ≤ s) : ∀ n, s < sumTo f n → ∃ k, k < n ∧ sumTo f k ≤ s ∧ s < sumTo f (k + 1)
  | 0, h => by simp [sumTo] at h; omega
  | n + 1, h => by
    rcases Int.lt_or_le s (sumTo f n) with c | c
    · obtain ⟨k, h1, h2, h3⟩ := sum_find h0 n c
      exact ⟨k, by omega, h2, h3⟩
    · exact ⟨n, by omega, c, h⟩
theorem sum_side {f : Nat → Int} {n k : Nat} {s : Int} (h : ∀ i, i < n → 1 ≤ f i) (hk : k < n) (h1 : sumTo f k ≤ s) (h2 : s < sumTo f (k + 1)) (i : Nat) (hi : i < n) : decide (sumTo f i ≤ s) = decide (i ≤ k) := by
  rcases Nat.lt_or_ge k i with c | c
  · have := sumTo_lt (a := k + 1) (b := i) h (by omega) (by omega)
    rw [decide_eq_false (by omega), decide_eq_false (by omega)]
  · have := sumTo_lt (a := i) (b := k) h c (by omega)
    rw [decide_eq_true (by omega), decide_eq_true c]

/-- The first slot of a class; its first page. -/
def sS (c : Conf) (t k : Nat) : Int := sumTo (slotsOf c t) k
def sG (c : Conf) (t k : Nat) : Int := sumTo (pagesOf c t) k
structure Part where
  size : Int
  first : Int
  many : Int
  page : Int
  per : Int
def partOf (c : Conf) (t k : Nat) : Part := ⟨nth c.cl k, sS c t k, slotsOf c t k, sG c t k, perOf c k⟩

/-- Slot s is of class k. -/
structure AtClass (c : Conf) (t : Nat) (s : Int) (k : Nat) : Prop where
  lt : k < c.cl.length
  lo : sS c t k ≤ s
  hi : s < sS c t (k + 1)
/-- Page p is of class k. -/
structure AtPage (c : Conf) (t : Nat) (p : Int) (k : Nat) : Prop where
  lt : k < c.cl.length
  lo : sG c t k ≤ p
  hi : p < sG c t (k + 1)
theorem atClass_find {c : Conf} {t : Nat} {s : Int} (h0 : 0 ≤ s) (h : s < sS c t c.cl.length) : ∃ k, AtClass c t s k := by
  obtain ⟨k, h1, h2, h3⟩ := sum_find h0 _ h
  exact ⟨k, h1, h2, h3⟩
theorem atPage_find {c : Conf} {t : Nat} {s : Int} (h0 : 0 ≤ s) (h : s < sG c t c.cl.length) : ∃ k, AtPage c t s k := by
  obtain ⟨k, h1, h2, h3⟩ := sum_find h0 _ h
  exact ⟨k, h1, h2, h3⟩
theorem KOk.slots1 {c : Conf} (h : KOk c) {t : Nat} (ht : t < c.ts.length) : ∀ i, i < c.cl.length → 1 ≤ slotsOf c t i := fun _ hi => (h.bounds ht hi).s1
theorem KOk.pages1 {c : Conf} (h : KOk c) {t : Nat} (ht : t < c.ts.length) : ∀ i, i < c.cl.length → 1 ≤ pagesOf c t i := fun _ hi => (h.bounds ht hi).pg1
theorem KOk.sS_le {c : Conf} (h : KOk c) {t k : Nat} (ht : t < c.ts.length) (hk : k ≤ c.cl.length) : (k : Int) ≤ sS c t k ∧ sS c t k ≤ k * 2048 := by
  have h1 := sumTo_lt (a := 0) (b := k) (h.slots1 ht) (Nat.zero_le _) hk
  have h2 := sumTo_bound (slotsOf c t) 2048 k fun i hi => ⟨by have := (h.bounds ht (k := i) (by omega)).s1; omega, (h.bounds ht (by omega)).s2048⟩
  unfold sS
  simp [sumTo] at h1
  omega
theorem KOk.sG_le {c : Conf} (h : KOk c) {t k : Nat} (ht : t < c.ts.length) (hk : k ≤ c.cl.length) : (k : Int) ≤ sG c t k ∧ sG c t k ≤ k * 2048 := by
  have h1 := sumTo_lt (a := 0) (b := k) (h.pages1 ht) (Nat.zero_le _) hk
  have h2 := sumTo_bound (pagesOf c t) 2048 k fun i hi => ⟨by have := (h.bounds ht (k := i) (by omega)).pg1; omega, (h.bounds ht (by omega)).pg2048⟩
  unfold sG
  simp [sumTo] at h1
  omega
theorem KOk.S_side {c : Conf} (h : KOk c) {t k : Nat} {s : Int} (ht : t < c.ts.length) (hk : AtClass c t s k) (i : Nat) (hi : i < c.cl.length) : decide (sS c t i ≤ s) = decide (i ≤ k) :=
  sum_side (h.slots1 ht) hk.lt hk.lo hk.hi i hi
theorem KOk.G_side {c : Conf} (h : KOk c) {t k : Nat} {s : Int} (ht : t < c.ts.length) (hk : AtPage c t s k) (i : Nat) (hi : i < c.cl.length) : decide (sG c t i ≤ s) = decide (i ≤ k) :=
  sum_side (h.pages1 ht) hk.lt hk.lo hk.hi i hi
theorem sG_words {c : Conf} (t : Nat) : ∀ k, sumTo (fun i => pagesOf c t i * c.page) k = sG c t k * c.page
  | 0 => by simp [sG, sumTo]
  | k + 1 => by rw [sumTo_succ, sG_words t k]; unfold sG; rw [sumTo_succ, Int.add_mul]

end Go.Proofs.YtlhajoamebfniaaDoor

/-! Rows of a call's own making that hold numbers: what is read of them, and what a store leaves. No program is named here. -/
namespace Go.Proofs.YtlhajoamebfniaaDoor
open Go.RowKit

theorem cell_far (w : World) (p a : Addr) (v : Value) (h : p.block ≠ a.block) : (w.setCell p v).cell? a = w.cell? a := by
  have e := heap_setCell_other w p a.block v (Ne.symm h)
  unfold World.cell?
  rw [e]
theorem Ext.frozenAt {w w' : World} (h : Ext w w') {p : Addr} {v : Value} (hc : w.cell? p = some v) (hf : w.frozen? p = false) : w'.frozen? p = false := by
  rw [h.frozen (cell_lt hc)]; exact hf
theorem own_ext {W W1 : World} {base e size n : Nat} {v : Value} {xs : List Value} (h : W.ownsRow base e size v n xs) (hx : Ext W W1) : W1.ownsRow base e size v n xs := by
  obtain ⟨h1, h2 | ⟨g, cap, cur, h2, h3, h4, h5⟩⟩ := h
  · exact ⟨h1, .inl h2⟩
  · exact ⟨h1, .inr ⟨g, cap, cur, h2, h3, hx.block h4, h5⟩⟩
theorem own_setCell {W : World} {base e size n : Nat} {v : Value} {xs : List Value} (h : W.ownsRow base e size v n xs) {p : Addr} (hp : p.block < base) (u : Value) : (W.setCell p u).ownsRow base e size v n xs := by
  obtain ⟨h1, h2 | ⟨g, cap, cur, h2, h3, h4, h5⟩⟩ := h
  · exact ⟨h1, .inl h2⟩
  · exact ⟨h1, .inr ⟨g, cap, cur, h2, h3, by rw [heap_setCell_other _ _ _ _ (by omega)]; exact h4, h5⟩⟩
theorem Ext.grown {w W W' : World} (h : Ext w W) {row : Option Nat} (hg : W.grownBy W' row) (hr : ∀ k, row = some k → w.heap.size ≤ k) : Ext w W' := Ext.of (h.below.grown hg h.size hr)
theorem grow_cell {W W1 w2 : World} {row : Option Nat} (hg : W1.grownBy w2 row) (hx : Ext W W1) {p : Addr} {v : Value} (hc : W.cell? p = some v) (hne : some p.block ≠ row) : w2.cell? p = some v := by
  rw [hg.cell_far _ (cell_lt (hx.cell hc)) hne]; exact hx.cell hc
theorem grow_frozen {W W1 w2 : World} {row : Option Nat} (hg : W1.grownBy w2 row) (hx : Ext W W1) {p : Addr} {v : Value} (hc : W.cell? p = some v) (hf : W.frozen? p = false) (hne : some p.block ≠ row) : w2.frozen? p = false := by
  rw [hg.frozen_far _ (cell_lt (hx.cell hc)) hne]; exact hx.frozenAt hc hf
theorem news1 (w : World) (v : Value) (t : TypeId) : ∀ j u, [v][j]? = some u → (w.alloc (.cells #[v] t)).cell? ((⟨w.heap.size, 0, none⟩ : Addr).add j) = some u := by
  intro j u h
  match j, h with
  | 0, h => cases h; rw [Addr.add_lit]; exact cell_new1 w v t
theorem one1 {v : Value} (h : v.oneCell' = true) : ∀ u ∈ [v], u.oneCell' = true := by
  intro u hu
  simp only [List.mem_singleton] at hu
  subst hu; exact h

/-- Numbers as cells. -/
def ncs (k : IntKind) (xs : List Int) : List Value := xs.map (Value.int k)
theorem ncs_len (k : IntKind) (xs : List Int) : (ncs k xs).length = xs.length := by simp [ncs]
theorem ncs_one (k : IntKind) (xs : List Int) : ∀ u ∈ ncs k xs, u.oneCell' = true := by
  intro u hu
  simp only [ncs, List.mem_map] at hu
  obtain ⟨n, _, rfl⟩ := hu
  rfl
theorem ncs_at (k : IntKind) (xs : List Int) (i : Nat) (h : i < xs.length) : (ncs k xs)[i]? = some (.int k (nth xs i)) := by
  simp [ncs, nth, List.getD, h]
theorem ncs_news {k : IntKind} {w : World} {b o : Nat} {xs : List Int} (h : ∀ i, i < xs.length → w.cell? ⟨b, o + i, none⟩ = some (.int k (nth xs i))) :
    ∀ j u, (ncs k xs)[j]? = some u → w.cell? ((⟨b, o, none⟩ : Addr).add j) = some u := by
  intro j u hj
  have hl : j < xs.length := by have := (List.getElem?_eq_some_iff.1 hj).1; rwa [ncs_len] at this
  rw [ncs_at k xs j hl] at hj
  cases hj
  rw [Addr.add_lit]; exact h j hl
theorem own_ints {k : IntKind} {w : World} {base e : Nat} {v : Value} {n : Nat} {xs : List Int} (h : w.ownsRow base e 1 v n (ncs k xs)) (h0 : 0 < n) :
    ∃ g cap, v = .slice (some ⟨g, 0, none⟩) n cap ∧ base ≤ g ∧ g < w.heap.size ∧ n = xs.length ∧ n ≤ cap ∧ cap ≤ maxLen ∧ At k w (some ⟨g, 0, none⟩) xs ∧ ∀ o, w.frozen? ⟨g, o, none⟩ = false := by
  have hn : n = xs.length := by have := h.1; rw [ncs_len] at this; omega
  have h' := h
  obtain ⟨_, ⟨rfl, rfl⟩ | ⟨g, cap, cur, rfl, hb, hh, hc, hm, hs, ht⟩⟩ := h
  · exact absurd h0 (Nat.lt_irrefl 0)
  · refine ⟨g, cap, rfl, hb, (Array.getElem?_eq_some_iff.1 hh).1, hn, hc, hm, ?_, fun o => h'.frozenAt o⟩
    refine At.mk fun i hi => ?_
    rw [Nat.zero_add, h'.cellAt _ (by omega)]; exact ncs_at k xs i hi

/-- A row of numbers of the call's own. -/
structure NewInts (k : IntKind) (w w' : World) (a : Option Addr) (cap : Nat) (xs : List Int) : Prop where
  row : At k w' a xs
  cap1 : xs.length ≤ cap
  cap2 : cap ≤ maxLen
  own : 0 < xs.length → ∃ g, a = some ⟨g, 0, none⟩ ∧ w.heap.size ≤ g ∧ g < w'.heap.size ∧ ∀ o, w'.frozen? ⟨g, o, none⟩ = false
theorem newInts_of {k : IntKind} {w w1 : World} {e : Nat} {v : Value} {xs : List Int} (h : w1.ownsRow w.heap.size e 1 v xs.length (ncs k xs)) : ∃ a cap, v = .slice a xs.length cap ∧ NewInts k w w1 a cap xs := by
  rcases Nat.eq_zero_or_pos xs.length with c | c
  · obtain rfl := List.length_eq_zero_iff.1 c
    obtain ⟨_, ⟨rfl, _⟩ | ⟨g, cap, cur, rfl, hb, hh, hc, hm, hs, ht⟩⟩ := h
    · exact ⟨none, 0, rfl, At.nil, Nat.le_refl _, Nat.zero_le _, fun hi => absurd hi (Nat.lt_irrefl 0)⟩
    · exact ⟨_, cap, rfl, At.nil, hc, hm, fun hi => absurd hi (Nat.lt_irrefl 0)⟩
  · obtain ⟨g, cap, rfl, h1, h2, _, h4, h5, h6, h7⟩ := own_ints h c
    exact ⟨_, cap, rfl, h6, h4, h5, fun _ => ⟨g, rfl, h1, h2, h7⟩⟩
theorem NewInts.lower {k : IntKind} {w W0 w' : World} {a : Option Addr} {cap : Nat} {xs : List Int} (h : NewInts k W0 w' a cap xs) (hl : w.heap.size ≤ W0.heap.size) : NewInts k w w' a cap xs :=
  ⟨h.row, h.cap1, h.cap2, fun h0 => by obtain ⟨g, e, h1, h2⟩ := h.own h0; exact ⟨g, e, Nat.le_trans hl h1, h2⟩⟩
theorem NewInts.ext {k : IntKind} {W0 w' w'' : World} {a : Option Addr} {cap : Nat} {xs : List Int} (h : NewInts k W0 w' a cap xs) (hx : Ext w' w'') : NewInts k W0 w'' a cap xs :=
  ⟨h.row.ext hx, h.cap1, h.cap2, fun h0 => by
    obtain ⟨g, e, h1, h2, h3⟩ := h.own h0
    exact ⟨g, e, h1, Nat.lt_of_lt_of_le h2 hx.size, fun o => by rw [hx.frozen (p := ⟨g, o, none⟩) h2]; exact h3 o⟩⟩
theorem NewInts.setCell {k : IntKind} {W0 w' : World} {a : Option Addr} {cap : Nat} {xs : List Int} (h : NewInts k W0 w' a cap xs) {p : Addr} (hp : p.block < W0.heap.size) (u : Value) : NewInts k W0 (w'.setCell p u) a cap xs := by
  refine ⟨fun i hi => ?_, h.cap1, h.cap2, fun h0 => ?_⟩
  · obtain ⟨g, rfl, h1, _⟩ := h.own (by omega)
    obtain ⟨b, o, e, hc⟩ := h.row i hi
    cases e
    refine ⟨g, 0, rfl, ?_⟩
    rw [cell_far _ _ _ _ (by show p.block ≠ g; omega)]; exact hc
  · obtain ⟨g, e, h1, h2, h3⟩ := h.own h0
    exact ⟨g, e, h1, by simpa using h2, fun o => by simpa using h3 o⟩

/-- What a call that clones a row of numbers hands back. -/
def ClonedInts (k : IntKind) (xs : List Int) (w : World) (e : Ending) (w' : World) : Prop := ∃ a cap, e = .returned (.slice a xs.length cap) ∧ NewInts k w w' a cap xs ∧ Ext w w'

theorem ncs_snoc (k : IntKind) (l : List Int) (p : Int) : ncs k l ++ [.int k p] = ncs k (l ++ [p]) := by unfold ncs; rw [List.map_append]; rfl

end Go.Proofs.YtlhajoamebfniaaDoor

/-! A plan's shape in the memory; what only reads it. -/
namespace Go.Proofs.YtlhajoamebfniaaDoor
open Go.RowKit

/-- A part as cells; parts. -/
def pc5 (x : Part) : List Value := [.int .i64 x.size, .int .i64 x.first, .int .i64 x.many, .int .i64 x.page, .int .i64 x.per]
def pcs (c : Conf) (t : Nat) : Nat → List Value
  | 0 => []
  | k + 1 => pcs c t k ++ pc5 (partOf c t k)
theorem pcs_len (c : Conf) (t : Nat) : ∀ k, (pcs c t k).length = k * 5
  | 0 => rfl
  | k + 1 => by show (pcs c t k ++ pc5 (partOf c t k)).length = _; rw [List.length_append, pcs_len c t k]; simp [pc5]; omega
theorem pcs_at (c : Conf) (t : Nat) : ∀ k i j, i < k → j < 5 → (pcs c t k)[i * 5 + j]? = (pc5 (partOf c t i))[j]?
  | 0, i, j, hi, _ => absurd hi (Nat.not_lt_zero _)
  | k + 1, i, j, hi, hj => by
    show (pcs c t k ++ pc5 (partOf c t k))[i * 5 + j]? = _
    by_cases e : i < k
    · rw [List.getElem?_append_left (by rw [pcs_len]; omega)]; exact pcs_at c t k i j e hj
    · obtain rfl : i = k := by omega
      rw [List.getElem?_append_right (by rw [pcs_len]; omega), pcs_len, show i * 5 + j - i * 5 = j by omega]
theorem pc5_one (x : Part) : ∀ u ∈ pc5 x, u.oneCell' = true := by
  intro u hu
  simp only [pc5, List.mem_cons, List.not_mem_nil, or_false] at hu
  rcases hu with rfl | rfl | rfl | rfl | rfl <;> rfl

/-- A plan of tenant t of c: its box b, its parts' block gp. -/
structure PlanAt (w : World) (b gp : Nat) (c : Conf) (t : Nat) : Prop where
  ok : KOk c
  ti : t < c.ts.length
  parts : ∃ cap, w.cell? ⟨b, 0, none⟩ = some (.slice (some ⟨gp, 0, none⟩) c.cl.length cap)
  slots : w.cell? ⟨b, 1, none⟩ = some (.int .i64 (sS c t c.cl.length))
  pages : w.cell? ⟨b, 2, none⟩ = some (.int .i64 (sG c t c.cl.length))
  page : w.cell? ⟨b, 3, none⟩ = some (.int .i64 c.page)
  row : ∀ i, i < c.cl.length → ∀ j u, (pc5 (partOf c t i))[j]? = some u → w.cell? ⟨gp, i * 5 + j, none⟩ = some u
theorem PlanAt.ext {w w' : World} {b gp : Nat} {c : Conf} {t : Nat} (h : PlanAt w b gp c t) (hx : Ext w w') : PlanAt w' b gp c t := by
  obtain ⟨cap, h0⟩ := h.parts
  exact ⟨h.ok, h.ti, ⟨cap, hx.cell h0⟩, hx.cell h.slots, hx.cell h.pages, hx.cell h.page, fun i hi j u hu => hx.cell (h.row i hi j u hu)⟩
theorem PlanAt.cells {w : World} {b gp : Nat} {c : Conf} {t : Nat} (h : PlanAt w b gp c t) {i : Nat} (hi : i < c.cl.length) :
    w.cell? ⟨gp, i * 5, none⟩ = some (.int .i64 (nth c.cl i)) ∧ w.cell? ⟨gp, i * 5 + 1, none⟩ = some (.int .i64 (sS c t i)) ∧ w.cell? ⟨gp, i * 5 + 2, none⟩ = some (.int .i64 (slotsOf c t i)) ∧
    w.cell? ⟨gp, i * 5 + 3, none⟩ = some (.int .i64 (sG c t i)) ∧ w.cell? ⟨gp, i * 5 + 4, none⟩ = some (.int .i64 (perOf c i)) :=
  ⟨h.row i hi 0 _ rfl, h.row i hi 1 _ rfl, h.row i hi 2 _ rfl, h.row i hi 3 _ rfl, h.row i hi 4 _ rfl⟩

theorem PlanAt.pg2 {w : World} {b gp : Nat} {c : Conf} {t : Nat} (h : PlanAt w b gp c t) : 2 ≤ c.page ∧ c.page ≤ 64 := by
  have bd := h.ok.bounds h.ti (k := 0) h.ok.cl.pos
  have := bd.c2; have := bd.cpage; have := bd.p64; omega

set_option maxHeartbeats 1000000 in
theorem slot_none {b gp : Nat} {c : Conf} {t : Nat} {w : World} (h : PlanAt w b gp c t) : Calls Tryd.prog 90 #[.pointer (some ⟨b, 0, none⟩)] w fun e w' => e = .returned (.bool false) ∧ w = w' := by
  have h3 := h.page
  have hp := h.pg2.1
  have t0 : (c.page == 0) = false := by simp; omega
  go_enter Tryd.func90, Tryd.ntmps90
  go_wp2_with fail
  go_ret
  exact ⟨rfl, rfl⟩
set_option maxHeartbeats 1000000 in
theorem slot_Slots {b gp : Nat} {c : Conf} {t : Nat} {w : World} (h : PlanAt w b gp c t) : Calls Tryd.prog 77 #[.pointer (some ⟨b, 0, none⟩)] w fun e w' => e = .returned (.int .i64 (sS c t c.cl.length)) ∧ w = w' := by
  have h1 := h.slots
  have H := Lib.hid h; clear h
  go_enter Tryd.func77, Tryd.ntmps77
  go_wp2_with fail
  refine (slot_none H.out).mono ?_
  rintro e w1000 ⟨rfl, rfl⟩
  go_wp2_with fail
  go_ret
  exact ⟨rfl, rfl⟩
set_option maxHeartbeats 1000000 in
theorem slot_Pages {b gp : Nat} {c : Conf} {t : Nat} {w : World} (h : PlanAt w b gp c t) : Calls Tryd.prog 86 #[.pointer (some ⟨b, 0, none⟩)] w fun e w' => e = .returned (.int .i64 (sG c t c.cl.length)) ∧ w = w' := by
  have h1 := h.pages
  have H := Lib.hid h; clear h
  go_enter Tryd.func86, Tryd.ntmps86
  go_wp2_with fail
  refine (slot_none H.out).mono ?_
  rintro e w1000 ⟨rfl, rfl⟩
  go_wp2_with fail
  go_ret
  exact ⟨rfl, rfl⟩
theorem mul_bd {a b : Int} {A B : Int} (h0 : 0 ≤ a) (h1 : a ≤ A) (h2 : 0 ≤ b) (h3 : b ≤ B) : 0 ≤ a * b ∧ a * b ≤ A * B := by
  refine ⟨Int.mul_nonneg h0 h2, ?_⟩
  have h4 := Int.mul_le_mul_of_nonneg_right (c := b) h1 h2
  have h5 := Int.mul_le_mul_of_nonneg_left (c := A) h3 (Int.le_trans h0 h1)
  omega
set_option maxHeartbeats 2000000 in
theorem slot_Of {b gp k : Nat} {c : Conf} {t : Nat} {w : World} (h : PlanAt w b gp c t) (hk : k < c.cl.length) : Calls Tryd.prog 66 #[.pointer (some ⟨b, 0, none⟩), .int .i64 k] w fun e w' => e = .returned (.tuple #[.int .i64 (sS c t k), .int .i64 (slotsOf c t k), .int .i64 0]) ∧ Ext w w' := by
  obtain ⟨cap, h0⟩ := h.parts
  obtain ⟨_, r1, r2, _, _⟩ := h.cells hk
  have H := Lib.hid h
  have m8 := h.ok.cl.most
  have t0 : decide ((k : Int) < 0) = false := by simp
  have t1 : decide ((c.cl.length : Int) ≤ (k : Int)) = false := by simp; omega
  have hk0 : (0 : Int) ≤ (k : Int) := Int.natCast_nonneg _
  have hk1 : (k : Int) < (c.cl.length : Int) := by omega
  clear h
  go_enter Tryd.func66, Tryd.ntmps66
  go_wp2_with fail
  refine (slot_none H.out).mono ?_
  rintro e w1000 ⟨rfl, rfl⟩
  go_wp2_with fail
  go_quiet (fail)
  go_wp2_with fail
  go_ret3
  exact ⟨rfl, (Ext.refl _).drewN _⟩
set_option maxHeartbeats 2000000 in
theorem slot_Of_no {b gp : Nat} {k : Int} {c : Conf} {t : Nat} {w : World} (h : PlanAt w b gp c t) (hk : (c.cl.length : Int) ≤ k) : Calls Tryd.prog 66 #[.pointer (some ⟨b, 0, none⟩), .int .i64 k] w fun e w' => e = .returned (.tuple #[.int .i64 0, .int .i64 0, .int .i64 2]) ∧ Ext w w' := by
  obtain ⟨cap, h0⟩ := h.parts
  have H := Lib.hid h
  have m8 := h.ok.cl.most
  have t0 : decide (k < 0) = false := by simp; omega
  have t1 : decide ((c.cl.length : Int) ≤ k) = true := by simp; omega
  have hk0 : 0 ≤ k := by omega
  clear h
  go_enter Tryd.func66, Tryd.ntmps66
  go_wp2_with fail
  refine (slot_none H.out).mono ?_
  rintro e w1000 ⟨rfl, rfl⟩
  go_wp2_with fail
  go_ret3
  exact ⟨rfl, Ext.refl _⟩

end Go.Proofs.YtlhajoamebfniaaDoor

/-! slot: last, find, Class, Size, Page, Addr, in, In. -/
namespace Go.Proofs.YtlhajoamebfniaaDoor
open Go.RowKit Go.Shelf

/-- A part as a value. -/
def pv5 (x : Part) : Value := .agg #[.int .i64 x.size, .int .i64 x.first, .int .i64 x.many, .int .i64 x.page, .int .i64 x.per]
/-- The function value g answers r of the part x, wherever memory has gone on from w. -/
def AnswersP (P : Program) (g : Nat) (cs : Array Value) (x : Part) (r : Bool) (w : World) : Prop :=
  ∀ w', Ext w w' → Calls P g (#[pv5 x] ++ cs) w' fun e w'' => e = .returned (.bool r) ∧ Ext w' w''

theorem slot_find1 (x : Part) (s : Int) (r : Bool) (p : Addr) {w : World} (hs : w.cell? p = some (.int .i64 s)) (hr : decide (x.first ≤ s) = r) :
    Calls Tryd.prog 103 #[pv5 x, .pointer (some p)] w fun e w' => e = .returned (.bool r) ∧ Ext w w' := by
  unfold pv5
  have HR := Lib.hid hr
  have hl : p.block < w.heap.size := cell_lt hs
  have hs2 : (w.alloc (.cells #[.int .i64 x.size, .int .i64 x.first, .int .i64 x.many, .int .i64 x.page, .int .i64 x.per] 145)).cell? p = some (.int .i64 s) := cell_alloc hs _
  clear hr
  go_enter Tryd.func103, Tryd.ntmps103
  go_wp2_with fail
  go_ret
  exact ⟨ret_bool HR.out, (Ext.refl w).alloc _⟩
theorem slot_in1 (x : Part) (s : Int) (r : Bool) (p : Addr) {w : World} (hs : w.cell? p = some (.int .i64 s)) (hr : decide (x.page ≤ s) = r) :
    Calls Tryd.prog 105 #[pv5 x, .pointer (some p)] w fun e w' => e = .returned (.bool r) ∧ Ext w w' := by
  unfold pv5
  have HR := Lib.hid hr
  have hl : p.block < w.heap.size := cell_lt hs
  have hs2 : (w.alloc (.cells #[.int .i64 x.size, .int .i64 x.first, .int .i64 x.many, .int .i64 x.page, .int .i64 x.per] 145)).cell? p = some (.int .i64 s) := cell_alloc hs _
  clear hr
  go_enter Tryd.func105, Tryd.ntmps105
  go_wp2_with fail
  go_ret
  exact ⟨ret_bool HR.out, (Ext.refl w).alloc _⟩

set_option maxHeartbeats 4000000 in
theorem slot_last1 {b gp so pb i : Nat} {c : Conf} {t : Nat} (g : Nat) (cs : Array Value) (r : Bool) {w : World} (h : PlanAt w b gp c t) (hi : i < c.cl.length) (hs : w.cell? ⟨so, 0, none⟩ = some (.func (.func g) #[] cs)) (hp : w.cell? ⟨pb, 0, none⟩ = some (.pointer (some ⟨b, 0, none⟩)))
    (ha : AnswersP Tryd.prog g cs (partOf c t i) r w) (hk : Enters Tryd.prog g) :
    Calls Tryd.prog 111 #[.int .i64 i, .pointer (some ⟨so, 0, none⟩), .pointer (some ⟨pb, 0, none⟩)] w fun e w' => e = .returned (.bool (!r)) ∧ Ext w w' := by
  unfold Enters at hk
  have HA := Lib.hid ha
  obtain ⟨cap, h0⟩ := h.parts
  obtain ⟨r0, r1, r2, r3, r4⟩ := h.cells hi
  have m8 := h.ok.cl.most
  have hi0 : (0 : Int) ≤ (i : Int) := Int.natCast_nonneg _
  have hi1 : (i : Int) < (c.cl.length : Int) := by omega
  have hd : Ext w w.drew := (Ext.refl w).drew
  clear ha h
  go_enter Tryd.func111, Tryd.ntmps111
  go_wp2_with fail
  go_region_held3 (fun w' => w'.cell? ⟨so, 0, none⟩ = some (.func (.func g) #[] cs) ∧ w'.cell? ⟨pb, 0, none⟩ = some (.pointer (some ⟨b, 0, none⟩)) ∧ w'.cell? ⟨b, 0, none⟩ = some (.slice (some ⟨gp, 0, none⟩) c.cl.length cap) ∧ w'.cell? ⟨gp, i * 5, none⟩ = some (.int .i64 (nth c.cl i)) ∧ w'.cell? ⟨gp, i * 5 + 1, none⟩ = some (.int .i64 (sS c t i)) ∧ w'.cell? ⟨gp, i * 5 + 2, none⟩ = some (.int .i64 (slotsOf c t i)) ∧ w'.cell? ⟨gp, i * 5 + 3, none⟩ = some (.int .i64 (sG c t i)) ∧ w'.cell? ⟨gp, i * 5 + 4, none⟩ = some (.int .i64 (perOf c i)))
    ((first | go_keep | (go_split_ands; exact ⟨hE.cell (by assumption), hE.cell (by assumption), hE.cell (by assumption), hE.cell (by assumption), hE.cell (by assumption), hE.cell (by assumption), hE.cell (by assumption), hE.cell (by assumption)⟩)))
    ((go_at_fn g; refine (HA.out _ hd).mono ?_; rintro e w1 ⟨rfl, hE⟩))
  all_goals
    go_wp2_with fail
    go_ret
    exact ⟨rfl, hd.trans hE⟩

theorem enters_last1 : Enters Tryd.prog 111 := Enters.mk Tryd.func111 (by kernel_rfl) rfl
theorem enters_find1 : Enters Tryd.prog 103 := Enters.mk Tryd.func103 (by kernel_rfl) rfl
theorem enters_in1 : Enters Tryd.prog 105 := Enters.mk Tryd.func105 (by kernel_rfl) rfl

set_option maxHeartbeats 4000000 in
theorem slot_last {b gp K : Nat} {c : Conf} {t : Nat} (g : Nat) (cs : Array Value) {w : World} (h : PlanAt w b gp c t) (hK : K < c.cl.length)
    (ha : ∀ i, i < c.cl.length → AnswersP Tryd.prog g cs (partOf c t i) (decide (i ≤ K)) w) (hk : Enters Tryd.prog g) :
    Calls Tryd.prog 102 #[.pointer (some ⟨b, 0, none⟩), .func (.func g) #[] cs] w fun e w' => e = .returned (.int .i64 K) ∧ Ext w w' := by
  have HA := Lib.hid ha; have HK := Lib.hid hk
  obtain ⟨cap, h0⟩ := h.parts
  have H := Lib.hid h
  have m8 := h.ok.cl.most
  have hb : b < w.heap.size := cell_lt h0
  clear ha h hk
  go_enter Tryd.func102, Tryd.ntmps102
  go_wp2_with fail
  refine (sort_Search 111 #[.pointer (some ⟨w.heap.size + 1, 0, none⟩), .pointer (some ⟨w.heap.size, 0, none⟩)] c.cl.length (K + 1) (fun i => decide (K < i)) _ (by omega) (fun i w' hi hx => ?_) (by omega) (fun i hi => by simp; omega) (fun i hi _ => by simp; omega) enters_last1).mono ?_
  · have hxw : Ext w w' := Ext.trans (((Ext.refl w).alloc _).alloc _) hx
    refine (slot_last1 g cs (decide (i ≤ K)) (H.out.ext hxw) hi (hx.cell (by simp)) (hx.cell (by simp)) (fun w'' hx'' => HA.out i hi w'' (hxw.trans hx'')) HK.out).mono ?_
    rintro e w1 ⟨rfl, hE⟩
    exact ⟨ret_bool (by by_cases hc : i ≤ K <;> simp [hc] <;> omega), hE⟩
  · rintro e w1 ⟨rfl, x⟩
    go_wp2_with fail
    go_ret
    exact ⟨rfl, Ext.trans (((Ext.refl w).alloc _).alloc _) x⟩

set_option maxHeartbeats 4000000 in
theorem slot_find {b gp k : Nat} {c : Conf} {t : Nat} {s : Int} (a : Int) {w : World} (h : PlanAt w b gp c t) (hk : AtClass c t s k) (ha : s - sS c t k = a) :
    Calls Tryd.prog 87 #[.pointer (some ⟨b, 0, none⟩), .int .i64 s] w fun e w' => e = .returned (.tuple #[.int .i64 k, .int .i64 a, .int .i64 0]) ∧ Ext w w' := by
  obtain ⟨cap, h0⟩ := h.parts
  have h1 := h.slots
  have H := Lib.hid h
  have m8 := h.ok.cl.most
  have hb : b < w.heap.size := cell_lt h0
  have kl := hk.lt
  have lo := hk.lo
  have sl := h.ok.sS_le h.ti (Nat.le_of_lt hk.lt)
  have sn := h.ok.sS_le h.ti (Nat.le_refl _)
  have up := sumTo_lt (f := slotsOf c t) (n := c.cl.length) (a := k + 1) (b := c.cl.length) (h.ok.slots1 h.ti) (by omega) (Nat.le_refl _)
  have hi := hk.hi
  have up2 : sS c t (k + 1) ≤ sS c t c.cl.length := by unfold sS; omega
  have t0 : decide (s < 0) = false := by simp; omega
  have t1 : decide (sS c t c.cl.length ≤ s) = false := by simp; omega
  have HS := Lib.hid (h.ok.S_side h.ti hk)
  have HA := Lib.hid ha
  have s0 : 0 ≤ s := by omega
  have s1 : s ≤ 16384 := by omega
  clear up hi up2 h hk ha
  go_enter Tryd.func87, Tryd.ntmps87
  go_wp2_with fail
  refine (slot_none (H.out.ext ((Ext.refl _).alloc _))).mono ?_
  rintro e w1 ⟨rfl, rfl⟩
  go_wp2_with fail
  go_quiet (fail)
  go_wp2_with fail
  have hc : ∀ nq, ((w.alloc (.cells #[.int .i64 s] 3)).drewN nq).cell? ⟨w.heap.size, 0, none⟩ = some (.int .i64 s) := fun nq => ((Ext.refl _).drewN nq).cell (cell_newN w _ _ 0)
  have X0 := ((Ext.refl w).alloc (.cells #[.int .i64 s] 3)).drewN nq
  replace hc := hc nq
  generalize (w.alloc (.cells #[.int .i64 s] 3)).drewN nq = w2 at *
  refine (slot_last (K := k) 103 #[.pointer (some ⟨w.heap.size, 0, none⟩)] (H.out.ext X0) kl (fun i hi w' hx => slot_find1 (partOf c t i) s (decide (i ≤ k)) ⟨w.heap.size, 0, none⟩ (hx.cell hc) (HS.out i hi)) enters_find1).mono ?_
  rintro e w3 ⟨rfl, x3⟩
  have hc3 := x3.cell hc
  have X3 := X0.trans x3
  have c0 := X3.cell h0
  obtain ⟨_, r1, _, _, _⟩ := (H.out.ext X3).cells kl
  have k0 : (0 : Int) ≤ (k : Int) := Int.natCast_nonneg _
  have k1 : (k : Int) < (c.cl.length : Int) := by omega
  obtain ⟨sl0, sl1⟩ := sl
  clear hc X0 x3
  generalize sS c t k = S at *
  go_wp2_with fail
  go_quiet (fail)
  go_wp2_with fail
  go_ret3
  exact ⟨by rw [← HA.out]; rfl, X3.drewN _⟩
set_option maxHeartbeats 4000000 in
theorem slot_find_no {b gp : Nat} {c : Conf} {t : Nat} {s : Int} {w : World} (h : PlanAt w b gp c t) (hk : s < 0 ∨ sS c t c.cl.length ≤ s) :
    Calls Tryd.prog 87 #[.pointer (some ⟨b, 0, none⟩), .int .i64 s] w fun e w' => e = .returned (.tuple #[.int .i64 0, .int .i64 0, .int .i64 2]) ∧ Ext w w' := by
  have h1 := h.slots
  have H := Lib.hid h
  have hb : b < w.heap.size := cell_lt h1
  have sn := h.ok.sS_le h.ti (Nat.le_refl _)
  clear h
  by_cases h0 : s < 0
  · have t0 : decide (s < 0) = true := by simp; omega
    clear hk
    go_enter Tryd.func87, Tryd.ntmps87
    go_wp2_with fail
    refine (slot_none (H.out.ext ((Ext.refl _).alloc _))).mono ?_
    rintro e w1 ⟨rfl, rfl⟩
    go_wp2_with fail
    go_quiet (fail)
    go_wp2_with fail
    go_ret3
    exact ⟨rfl, ((Ext.refl _).alloc _).drewN _⟩
  · have t0 : decide (s < 0) = false := by simp; omega
    have t1 : decide (sS c t c.cl.length ≤ s) = true := by simp; omega
    have s0 : 0 ≤ s := by omega
    clear hk
    go_enter Tryd.func87, Tryd.ntmps87
    go_wp2_with fail
    refine (slot_none (H.out.ext ((Ext.refl _).alloc _))).mono ?_
    rintro e w1 ⟨rfl, rfl⟩
    go_wp2_with fail
    go_quiet (fail)
    go_wp2_with fail
    go_ret3
    exact ⟨rfl, ((Ext.refl _).alloc _).drewN _⟩

set_option maxHeartbeats 4000000 in
theorem slot_Size {b gp k : Nat} {c : Conf} {t : Nat} {s : Int} {w : World} (h : PlanAt w b gp c t) (hk : AtClass c t s k) :
    Calls Tryd.prog 93 #[.pointer (some ⟨b, 0, none⟩), .int .i64 s] w fun e w' => e = .returned (.tuple #[.int .i64 (nth c.cl k), .int .i64 0]) ∧ Ext w w' := by
  have H := Lib.hid h; have HK := Lib.hid hk
  have m8 := h.ok.cl.most
  have kl := hk.lt
  have k0 : (0 : Int) ≤ (k : Int) := Int.natCast_nonneg _
  have k1 : (k : Int) < (c.cl.length : Int) := by omega
  clear h hk
  go_enter Tryd.func93, Tryd.ntmps93
  go_wp2_with fail
  refine (slot_find _ H.out HK.out rfl).mono ?_
  rintro e w1 ⟨rfl, x⟩
  obtain ⟨cap, h0⟩ := (H.out.ext x).parts
  obtain ⟨r0, _, _, _, _⟩ := (H.out.ext x).cells kl
  go_wp2_with fail
  go_ret2
  exact ⟨rfl, x⟩

/-- Where a slot lies: the which of its class it is; its page; its address. -/
def atOf (c : Conf) (t : Nat) (s : Int) (k : Nat) : Int := s - sS c t k
def pageOf (c : Conf) (t : Nat) (s : Int) (k : Nat) : Int := sG c t k + atOf c t s k / perOf c k
def addrOf (c : Conf) (t : Nat) (s : Int) (k : Nat) : Int := pageOf c t s k * c.page + atOf c t s k % perOf c k * nth c.cl k

set_option maxHeartbeats 4000000 in
theorem slot_Page {b gp k : Nat} {c : Conf} {t : Nat} {s : Int} {w : World} (h : PlanAt w b gp c t) (hk : AtClass c t s k) :
    Calls Tryd.prog 52 #[.pointer (some ⟨b, 0, none⟩), .int .i64 s] w fun e w' => e = .returned (.tuple #[.int .i64 (pageOf c t s k), .int .i64 0]) ∧ Ext w w' := by
  have H := Lib.hid h; have HK := Lib.hid hk
  have m8 := h.ok.cl.most
  have kl := hk.lt
  have k0 : (0 : Int) ≤ (k : Int) := Int.natCast_nonneg _
  have k1 : (k : Int) < (c.cl.length : Int) := by omega
  have bd := h.ok.bounds h.ti kl
  have u1 := bd.per1; have u2 := bd.per32; have u3 := bd.s2048
  have gl := h.ok.sG_le h.ti (Nat.le_of_lt kl)
  obtain ⟨g0, g1⟩ := gl
  have a0 : 0 ≤ atOf c t s k := by have := hk.lo; unfold atOf; omega
  have a1 : atOf c t s k ≤ 2048 := by have := hk.hi; have e : sS c t (k + 1) = sS c t k + slotsOf c t k := rfl; unfold atOf; omega
  have HP := Lib.hid (show pageOf c t s k = sG c t k + atOf c t s k / perOf c k from rfl)
  obtain ⟨q, hq⟩ : ∃ q, atOf c t s k / perOf c k = q := ⟨_, rfl⟩
  have q0 : 0 ≤ q := by rw [← hq]; exact Int.ediv_nonneg a0 (by omega)
  have q1 : q ≤ 2048 := by rw [← hq]; exact Int.le_trans (Int.ediv_le_self _ a0) a1
  have HQ := Lib.hid hq
  clear h hk bd hq
  generalize ha : atOf c t s k = a at *
  have HA := Lib.hid (show s - sS c t k = a from ha)
  clear ha
  go_enter Tryd.func52, Tryd.ntmps52
  go_wp2_with fail
  refine (slot_find a H.out HK.out HA.out).mono ?_
  rintro e w1 ⟨rfl, x⟩
  obtain ⟨cap, h0⟩ := (H.out.ext x).parts
  obtain ⟨_, _, _, r3, r4⟩ := (H.out.ext x).cells kl
  have hq := HQ.out
  generalize perOf c k = pe at *
  generalize sG c t k = G at *
  have pz : ¬ pe = 0 := by omega
  go_wp2_with fail
  go_quiet (fail)
  go_wp2_with fail
  go_ret2
  exact ⟨by rw [HP.out, HQ.out]; rfl, x.drewN _⟩

end Go.Proofs.YtlhajoamebfniaaDoor

/-! slot: in, In. -/
namespace Go.Proofs.YtlhajoamebfniaaDoor
open Go.RowKit Go.Shelf

/-- A block of five cells that may be written. -/
structure Five (w : World) (b : Nat) (v0 v1 v2 v3 v4 : Value) : Prop where
  c0 : w.cell? ⟨b, 0, none⟩ = some v0
  c1 : w.cell? ⟨b, 1, none⟩ = some v1
  c2 : w.cell? ⟨b, 2, none⟩ = some v2
  c3 : w.cell? ⟨b, 3, none⟩ = some v3
  c4 : w.cell? ⟨b, 4, none⟩ = some v4
  fz : ∀ o, w.frozen? ⟨b, o, none⟩ = false
theorem Five.lt {w : World} {b : Nat} {v0 v1 v2 v3 v4 : Value} (h : Five w b v0 v1 v2 v3 v4) : b < w.heap.size := cell_lt h.c0
theorem Five.ext {w w' : World} {b : Nat} {v0 v1 v2 v3 v4 : Value} (h : Five w b v0 v1 v2 v3 v4) (hx : Ext w w') : Five w' b v0 v1 v2 v3 v4 :=
  ⟨hx.cell h.c0, hx.cell h.c1, hx.cell h.c2, hx.cell h.c3, hx.cell h.c4, fun o => by rw [hx.frozen (p := ⟨b, o, none⟩) h.lt]; exact h.fz o⟩
theorem Five.new (w : World) (v0 v1 v2 v3 v4 : Value) (t : TypeId) {b : Nat} (hb : w.heap.size = b) : Five (w.alloc (.cells #[v0, v1, v2, v3, v4] t)) b v0 v1 v2 v3 v4 := by
  subst hb
  exact ⟨cell_newN w _ t 0, cell_newN w _ t 1, cell_newN w _ t 2, cell_newN w _ t 3, cell_newN w _ t 4, fun o => World.frozen?_alloc_at _ _ _ _ rfl⟩
theorem fOth {W : World} {b i j : Nat} {u v : Value} (h : decide (i = j) = false) (hc : W.cell? ⟨b, j, none⟩ = some v) : (W.setCell ⟨b, i, none⟩ u).cell? ⟨b, j, none⟩ = some v := by
  have := World.cell?_setCell_other W ⟨b, i, none⟩ ⟨b, j, none⟩ u (by intro e; cases e; simp at h)
  rw [this]; exact hc
theorem fSame {W : World} {b j : Nat} {u v : Value} (hc : W.cell? ⟨b, j, none⟩ = some v) : (W.setCell ⟨b, j, none⟩ u).cell? ⟨b, j, none⟩ = some u := World.cell?_setCell_same W _ _ hc
theorem Five.store {W : World} {b : Nat} {v0 v1 v2 v3 v4 : Value} (h : Five W b v0 v1 v2 v3 v4) (u0 u1 u2 u3 u4 : Value) : Five (((((W.setCell ⟨b, 0, none⟩ u0).setCell ⟨b, 1, none⟩ u1).setCell ⟨b, 2, none⟩ u2).setCell ⟨b, 3, none⟩ u3).setCell ⟨b, 4, none⟩ u4) b u0 u1 u2 u3 u4 := by
  refine ⟨?_, ?_, ?_, ?_, ?_, fun o => by simpa using h.fz o⟩
  · exact fOth rfl (fOth rfl (fOth rfl (fOth rfl (fSame h.c0))))
  · exact fOth rfl (fOth rfl (fOth rfl (fSame (fOth rfl h.c1))))
  · exact fOth rfl (fOth rfl (fSame (fOth rfl (fOth rfl h.c2))))
  · exact fOth rfl (fSame (fOth rfl (fOth rfl (fOth rfl h.c3))))
  · exact fSame (fOth rfl (fOth rfl (fOth rfl (fOth rfl h.c4))))
theorem far5 {W : World} {b : Nat} {a : Addr} (h : b ≠ a.block) {v0 v1 v2 v3 v4 v : Value} (hc : W.cell? a = some v) : (((((W.setCell ⟨b, 0, none⟩ v0).setCell ⟨b, 1, none⟩ v1).setCell ⟨b, 2, none⟩ v2).setCell ⟨b, 3, none⟩ v3).setCell ⟨b, 4, none⟩ v4).cell? a = some v := by
  rw [cell_far _ _ _ _ (by exact h), cell_far _ _ _ _ (by exact h), cell_far _ _ _ _ (by exact h), cell_far _ _ _ _ (by exact h), cell_far _ _ _ _ (by exact h)]
  exact hc
theorem Ext.set5 {w W : World} (h : Ext w W) {b : Nat} (hb : w.heap.size ≤ b) (u0 u1 u2 u3 u4 : Value) : Ext w (((((W.setCell ⟨b, 0, none⟩ u0).setCell ⟨b, 1, none⟩ u1).setCell ⟨b, 2, none⟩ u2).setCell ⟨b, 3, none⟩ u3).setCell ⟨b, 4, none⟩ u4) :=
  ((((h.setCell (p := ⟨b, 0, none⟩) hb u0).setCell (p := ⟨b, 1, none⟩) hb u1).setCell (p := ⟨b, 2, none⟩) hb u2).setCell (p := ⟨b, 3, none⟩) hb u3).setCell (p := ⟨b, 4, none⟩) hb u4

/-- How many of its class's slots lie ahead of a page. -/
def aheadP (c : Conf) (t : Nat) (p : Int) (k : Nat) : Int := (p - sG c t k) * perOf c k

set_option maxRecDepth 100000 in
set_option maxHeartbeats 8000000 in
theorem slot_in {b gp k : Nat} {c : Conf} {t : Nat} {p : Int} {w : World} (h : PlanAt w b gp c t) (hk : AtPage c t p k) :
    Calls Tryd.prog 91 #[.pointer (some ⟨b, 0, none⟩), .int .i64 p] w fun e w' => e = .returned (.tuple #[pv5 (partOf c t k), .int .i64 (aheadP c t p k)]) ∧ Ext w w' := by
  obtain ⟨cap, h0⟩ := h.parts
  have H := Lib.hid h
  have kl := hk.lt
  have m8 := h.ok.cl.most
  have HS := Lib.hid (h.ok.G_side h.ti hk)
  have k0 : (0 : Int) ≤ (k : Int) := Int.natCast_nonneg _
  have k1 : (k : Int) < (c.cl.length : Int) := by omega
  have bd := h.ok.bounds h.ti kl
  have u1 := bd.per1; have u2 := bd.per32; have u3 := bd.pg2048
  have gl := h.ok.sG_le h.ti (Nat.le_of_lt kl)
  obtain ⟨g0, g1⟩ := gl
  have lo := hk.lo
  have hi : p - sG c t k ≤ 2048 := by have := hk.hi; have e : sG c t (k + 1) = sG c t k + pagesOf c t k := rfl; omega
  have mb := mul_bd (a := p - sG c t k) (b := perOf c k) (A := 2048) (B := 32) (by omega) hi (by omega) u2
  obtain ⟨a, ha⟩ : ∃ a, (p - sG c t k) * perOf c k = a := ⟨_, rfl⟩
  have AH := Lib.hid (show aheadP c t p k = a from ha)
  have HA := Lib.hid ha
  rw [ha] at mb
  obtain ⟨a0, a1⟩ := mb
  have p1 : p ≤ 20480 := by omega
  obtain ⟨z, hz⟩ : ∃ z, w.heap.size = z := ⟨_, rfl⟩
  obtain ⟨W0, hW0⟩ : ∃ W0, (w.alloc (.cells #[.int .i64 p] 3)).alloc (.cells #[.int .i64 0, .int .i64 0, .int .i64 0, .int .i64 0, .int .i64 0] 145) = W0 := ⟨_, rfl⟩
  have x0 : Ext w W0 := by rw [← hW0]; exact ((Ext.refl _).alloc _).alloc _
  have cp : W0.cell? ⟨z, 0, none⟩ = some (.int .i64 p) := by rw [← hW0, ← hz]; exact ((Ext.refl _).alloc _).cell (cell_newN _ _ _ 0)
  have f0 : Five W0 (z + 1) (.int .i64 0) (.int .i64 0) (.int .i64 0) (.int .i64 0) (.int .i64 0) := by rw [← hW0]; exact Five.new _ _ _ _ _ _ _ (by simp [← hz])
  have hbz : b < z := by rw [← hz]; exact cell_lt h0
  have hgz : gp < z := by rw [← hz]; exact cell_lt (h.cells kl).1
  have F0 := Lib.hid f0; have CP := Lib.hid cp; have X0 := Lib.hid x0; have HZ := Lib.hid hz
  have PA := Lib.hid (h.ext x0)
  have hd : Ext W0 W0.drew := (Ext.refl _).drew
  have hb0 := x0.cell h0
  obtain ⟨r0, r1, r2, r3, r4⟩ := (h.ext x0).cells kl
  clear h hk bd ha f0 cp x0 h0
  go_enter Tryd.func91, Tryd.ntmps91
  go_wp2_with fail
  have nz1 : z + 1 ≠ b := by omega
  have nz2 : z + 1 ≠ gp := by omega
  go_region_held3 (fun w' => w'.cell? ⟨b, 0, none⟩ = some (.slice (some ⟨gp, 0, none⟩) c.cl.length cap) ∧ w'.cell? ⟨gp, k * 5, none⟩ = some (.int .i64 (nth c.cl k)) ∧ w'.cell? ⟨gp, k * 5 + 1, none⟩ = some (.int .i64 (sS c t k)) ∧ w'.cell? ⟨gp, k * 5 + 2, none⟩ = some (.int .i64 (slotsOf c t k)) ∧ w'.cell? ⟨gp, k * 5 + 3, none⟩ = some (.int .i64 (sG c t k)) ∧ w'.cell? ⟨gp, k * 5 + 4, none⟩ = some (.int .i64 (perOf c k)))
    ((first | with_reducible exact ⟨far5 nz1 (hE.cell hb0), far5 nz2 (hE.cell r0), far5 nz2 (hE.cell r1), far5 nz2 (hE.cell r2), far5 nz2 (hE.cell r3), far5 nz2 (hE.cell r4)⟩ | with_reducible exact ⟨hE.cell hb0, hE.cell r0, hE.cell r1, hE.cell r2, hE.cell r3, hE.cell r4⟩ | go_keep))
    ((go_at_call 102; refine (slot_last (K := k) 105 #[.pointer (some ⟨z, 0, none⟩)] (PA.out.ext hd) kl (fun i hi w' hx => slot_in1 (partOf c t i) p (decide (i ≤ k)) ⟨z, 0, none⟩ ((hd.trans hx).cell CP.out) (HS.out i hi)) enters_in1).mono ?_; rintro e w1 ⟨rfl, hE0⟩; have hE := hd.trans hE0; obtain ⟨q0, q1, q2, q3, q4, qf⟩ := F0.out.ext hE; have qf0 := qf 0; have qf1 := qf 1; have qf2 := qf 2; have qf3 := qf 3; have qf4 := qf 4))
  all_goals
    have F1 := Lib.hid ((F0.out.ext hE).store (.int .i64 (nth c.cl k)) (.int .i64 (sS c t k)) (.int .i64 (slotsOf c t k)) (.int .i64 (sG c t k)) (.int .i64 (perOf c k)))
    have zs : w.heap.size ≤ z + 1 := by have := HZ.out; omega
    have X1 := Lib.hid ((X0.out.trans hE).set5 zs (.int .i64 (nth c.cl k)) (.int .i64 (sS c t k)) (.int .i64 (slotsOf c t k)) (.int .i64 (sG c t k)) (.int .i64 (perOf c k)))
    have CP1 := Lib.hid (far5 (show z + 1 ≠ (⟨z, 0, none⟩ : Addr).block by simp) (hE.cell CP.out) (v0 := .int .i64 (nth c.cl k)) (v1 := .int .i64 (sS c t k)) (v2 := .int .i64 (slotsOf c t k)) (v3 := .int .i64 (sG c t k)) (v4 := .int .i64 (perOf c k)))
    clear q0 q1 q2 q3 q4 qf qf0 qf1 qf2 qf3 qf4 hb0 r0 r1 r2 r3 r4 hE hE0
    generalize (((((w1.setCell ⟨z + 1, 0, none⟩ (.int .i64 (nth c.cl k))).setCell ⟨z + 1, 1, none⟩ (.int .i64 (sS c t k))).setCell ⟨z + 1, 2, none⟩ (.int .i64 (slotsOf c t k))).setCell ⟨z + 1, 3, none⟩ (.int .i64 (sG c t k))).setCell ⟨z + 1, 4, none⟩ (.int .i64 (perOf c k))) = w2 at *
    obtain ⟨q0, q1, q2, q3, q4, qf⟩ := F1.out
    have qf0 := qf 0; have qf1 := qf 1; have qf2 := qf 2; have qf3 := qf 3; have qf4 := qf 4
    have cp2 := CP1.out
    have ha := HA.out
    have hd2 : Ext w2 w2.drew := (Ext.refl _).drew
    have F2 := Lib.hid ((F1.out.store (.int .i64 (nth c.cl k)) (.int .i64 (sS c t k)) (.int .i64 (slotsOf c t k)) (.int .i64 (sG c t k)) (.int .i64 (perOf c k))).ext (Ext.refl _).drew)
    have zs2 : w.heap.size ≤ z + 1 := zs
    have X2 := Lib.hid ((X1.out.set5 zs2 (.int .i64 (nth c.cl k)) (.int .i64 (sS c t k)) (.int .i64 (slotsOf c t k)) (.int .i64 (sG c t k)) (.int .i64 (perOf c k))).drew)
    have CP2 := Lib.hid ((Ext.refl _).drew.cell (far5 (show z + 1 ≠ (⟨z, 0, none⟩ : Addr).block by simp) cp2 (v0 := .int .i64 (nth c.cl k)) (v1 := .int .i64 (sS c t k)) (v2 := .int .i64 (slotsOf c t k)) (v3 := .int .i64 (sG c t k)) (v4 := .int .i64 (perOf c k))))
    go_wp2_with fail
    go_region_held3 (fun w' => w'.cell? ⟨z + 1, 0, none⟩ = some (.int .i64 (nth c.cl k)) ∧ w'.cell? ⟨z + 1, 1, none⟩ = some (.int .i64 (sS c t k)) ∧ w'.cell? ⟨z + 1, 2, none⟩ = some (.int .i64 (slotsOf c t k)) ∧ w'.cell? ⟨z + 1, 3, none⟩ = some (.int .i64 (sG c t k)) ∧ w'.cell? ⟨z + 1, 4, none⟩ = some (.int .i64 (perOf c k)) ∧ w'.cell? ⟨z, 0, none⟩ = some (.int .i64 p))
      ((first | with_reducible exact ⟨F2.out.c0, F2.out.c1, F2.out.c2, F2.out.c3, F2.out.c4, CP2.out⟩ | with_reducible exact ⟨hd2.cell q0, hd2.cell q1, hd2.cell q2, hd2.cell q3, hd2.cell q4, hd2.cell cp2⟩ | go_keep))
      (fail)
    all_goals
      clear q0 q1 q2 q3 q4 qf qf0 qf1 qf2 qf3 qf4 cp2
      obtain ⟨q0, q1, q2, q3, q4, qf⟩ := F2.out
      go_wp2_with fail
      refine bodyPost_ret (v := .tuple #[pv5 (partOf c t k), .int .i64 a]) (by simp [results, Tryd.results91, go_sem, q0, q1, q2, q3, q4, pv5, partOf, IntWalk.i64_in (p - sG c t k) (by omega), HA.out, IntWalk.i64_in a (by omega)]) rfl ⟨by rw [AH.out], X2.out⟩

end Go.Proofs.YtlhajoamebfniaaDoor

/-! slot: In. -/
namespace Go.Proofs.YtlhajoamebfniaaDoor
open Go.RowKit Go.Shelf

/-- A page's first slot, and how many it has. -/
def firstP (c : Conf) (t : Nat) (p : Int) (k : Nat) : Int := sS c t k + aheadP c t p k
def manyP (c : Conf) (t : Nat) (p : Int) (k : Nat) : Int := if slotsOf c t k - aheadP c t p k < perOf c k then slotsOf c t k - aheadP c t p k else perOf c k

theorem ahead_bd {c : Conf} {t k : Nat} {p : Int} (ho : KOk c) (ht : t < c.ts.length) (hk : AtPage c t p k) : 0 ≤ aheadP c t p k ∧ aheadP c t p k < slotsOf c t k := by
  have bd := ho.bounds ht hk.lt
  have u1 := bd.per1
  have e : sG c t (k + 1) = sG c t k + pagesOf c t k := rfl
  have lo := hk.lo; have hi := hk.hi
  have hd : p - sG c t k + 1 ≤ pagesOf c t k := by omega
  have hpg : pagesOf c t k * perOf c k ≤ slotsOf c t k + perOf c k - 1 := by unfold pagesOf; exact Int.ediv_mul_le _ (by omega)
  have h1 := Int.mul_le_mul_of_nonneg_right (c := perOf c k) hd (by omega)
  have h2 : (p - sG c t k + 1) * perOf c k = (p - sG c t k) * perOf c k + perOf c k := by rw [Int.add_mul, Int.one_mul]
  unfold aheadP
  exact ⟨Int.mul_nonneg (by omega) (by omega), by omega⟩

set_option maxRecDepth 100000 in
set_option maxHeartbeats 8000000 in
theorem slot_In {b gp k : Nat} {c : Conf} {t : Nat} {p : Int} {w : World} (h : PlanAt w b gp c t) (hk : AtPage c t p k) :
    Calls Tryd.prog 56 #[.pointer (some ⟨b, 0, none⟩), .int .i64 p] w fun e w' => e = .returned (.tuple #[.int .i64 (firstP c t p k), .int .i64 (manyP c t p k), .int .i64 0]) ∧ Ext w w' := by
  have h2 := h.pages
  have H := Lib.hid h; have HK := Lib.hid hk
  have m8 := h.ok.cl.most
  have kl := hk.lt
  have bd := h.ok.bounds h.ti kl
  have u1 := bd.per1; have u2 := bd.per32; have u3 := bd.s2048; have u4 := bd.s1
  have gl := h.ok.sS_le h.ti (Nat.le_of_lt kl)
  obtain ⟨g0, g1⟩ := gl
  obtain ⟨a0, a1⟩ := ahead_bd h.ok h.ti hk
  have lo := hk.lo; have hi := hk.hi
  have gk := h.ok.sG_le h.ti (Nat.le_of_lt kl)
  have up := sumTo_lt (f := pagesOf c t) (n := c.cl.length) (a := k + 1) (b := c.cl.length) (h.ok.pages1 h.ti) (by omega) (Nat.le_refl _)
  have up2 : sG c t (k + 1) ≤ sG c t c.cl.length := by unfold sG; omega
  have t0 : decide (p < 0) = false := by simp; omega
  have t1 : decide (sG c t c.cl.length ≤ p) = false := by simp; omega
  have p0 : 0 ≤ p := by omega
  have HF := Lib.hid (show firstP c t p k = sS c t k + aheadP c t p k from rfl)
  have HM := Lib.hid (show manyP c t p k = if slotsOf c t k - aheadP c t p k < perOf c k then slotsOf c t k - aheadP c t p k else perOf c k from rfl)
  clear h hk bd up up2 gk lo hi
  go_enter Tryd.func56, Tryd.ntmps56
  go_wp2_with fail
  refine (slot_none H.out).mono ?_
  rintro e w1000 ⟨rfl, rfl⟩
  go_wp2_with fail
  refine (slot_in H.out HK.out).mono ?_
  rintro e w1 ⟨rfl, x⟩
  unfold pv5 partOf
  generalize aheadP c t p k = a at *
  generalize sS c t k = S at *
  generalize slotsOf c t k = s at *
  generalize perOf c k = pe at *
  go_wp2_with fail
  by_cases hm : s - a < pe
  · have HM2 := Lib.hid (show manyP c t p k = s - a by rw [HM.out, if_pos hm])
    go_region
    all_goals
      go_wp2_with fail
      go_ret3
      exact ⟨by rw [HF.out, HM2.out]; rfl, (x.alloc _).drew⟩
  · have HM2 := Lib.hid (show manyP c t p k = pe by rw [HM.out, if_neg hm])
    go_region
    all_goals
      go_wp2_with fail
      go_ret3
      exact ⟨by rw [HF.out, HM2.out]; rfl, (x.alloc _).drew⟩

set_option maxHeartbeats 2000000 in
theorem slot_In_no {b gp : Nat} {c : Conf} {t : Nat} {p : Int} {w : World} (h : PlanAt w b gp c t) (hk : p < 0 ∨ sG c t c.cl.length ≤ p) :
    Calls Tryd.prog 56 #[.pointer (some ⟨b, 0, none⟩), .int .i64 p] w fun e w' => e = .returned (.tuple #[.int .i64 0, .int .i64 0, .int .i64 2]) ∧ Ext w w' := by
  have h2 := h.pages
  have H := Lib.hid h
  have gk := h.ok.sG_le h.ti (Nat.le_refl _)
  clear h
  by_cases h0 : p < 0
  · have t0 : decide (p < 0) = true := by simp; omega
    clear hk
    go_enter Tryd.func56, Tryd.ntmps56
    go_wp2_with fail
    refine (slot_none H.out).mono ?_
    rintro e w1000 ⟨rfl, rfl⟩
    go_wp2_with fail
    go_ret3
    exact ⟨rfl, Ext.refl _⟩
  · have t0 : decide (p < 0) = false := by simp; omega
    have t1 : decide (sG c t c.cl.length ≤ p) = true := by simp; omega
    have p0 : 0 ≤ p := by omega
    clear hk
    go_enter Tryd.func56, Tryd.ntmps56
    go_wp2_with fail
    refine (slot_none H.out).mono ?_
    rintro e w1000 ⟨rfl, rfl⟩
    go_wp2_with fail
    go_ret3
    exact ⟨rfl, Ext.refl _⟩

end Go.Proofs.YtlhajoamebfniaaDoor

/-! The first values of a sequence. No program is named here. -/
namespace Go.Proofs.YtlhajoamebfniaaDoor

def upto {α : Type} (f : Nat → α) (k : Nat) : List α := (List.range k).map f
theorem upto_succ {α : Type} (f : Nat → α) (k : Nat) : upto f (k + 1) = upto f k ++ [f k] := by simp [upto, List.range_succ]
theorem upto_length {α : Type} (f : Nat → α) (k : Nat) : (upto f k).length = k := by simp [upto]
theorem upto_snoc {α : Type} {f : Nat → α} {pre : List α} {x : α} (h : pre ++ [x] = upto f (pre ++ [x]).length) : pre = upto f pre.length ∧ x = f pre.length := by
  rw [List.length_append, List.length_singleton, upto_succ] at h
  have h1 := List.append_inj h (by simp [upto_length])
  exact ⟨h1.1, by simpa using h1.2⟩

end Go.Proofs.YtlhajoamebfniaaDoor

/-! slot: the function that addrs hands back: its contract as an iterator. -/
namespace Go.Proofs.YtlhajoamebfniaaDoor
open Go.RowKit Go.Shelf
attribute [local go_sem] Oper.semAt_some

/-- What a round is handed: a slot, and its address. -/
abbrev PItem := Int × Int
def encP (x : PItem) : Array Value := #[.int .i64 x.1, .int .i64 x.2]
def pitem (c : Conf) (t : Nat) (p : Int) (k j : Nat) : PItem := (firstP c t p k + j, p * c.page + j * nth c.cl k)
/-- What a round leaves: all below, and all cells. -/
def KC (n₀ : Nat) (A B : World) : Prop := Below n₀ A B ∧ ∀ (k : Nat) (o : Obj), A.heap[k]? = some o → o.isCells = true → B.heap[k]? = some o
theorem KC.trans {n₀ : Nat} {A B C : World} (h : KC n₀ A B) (k : KC n₀ B C) : KC n₀ A C := ⟨h.1.trans k.1, fun i o h1 h2 => k.2 i o (h.2 i o h1 h2) h2⟩
theorem KC.refl (n₀ : Nat) (A : World) : KC n₀ A A := ⟨Below.refl _ _, fun _ _ h _ => h⟩

theorem manyP_bd {c : Conf} {t k : Nat} {p : Int} (ho : KOk c) (ht : t < c.ts.length) (hk : AtPage c t p k) : 1 ≤ manyP c t p k ∧ manyP c t p k ≤ 32 := by
  have bd := ho.bounds ht hk.lt
  have u1 := bd.per1; have u2 := bd.per32
  obtain ⟨a0, a1⟩ := ahead_bd ho ht hk
  unfold manyP
  split <;> omega
theorem firstP_bd {c : Conf} {t k : Nat} {p : Int} (ho : KOk c) (ht : t < c.ts.length) (hk : AtPage c t p k) : 0 ≤ firstP c t p k ∧ firstP c t p k ≤ 20000 := by
  have bd := ho.bounds ht hk.lt
  have u3 := bd.s2048
  have m8 := ho.cl.most
  have kl := hk.lt
  have gl := ho.sS_le ht (Nat.le_of_lt kl)
  obtain ⟨a0, a1⟩ := ahead_bd ho ht hk
  unfold firstP
  omega

end Go.Proofs.YtlhajoamebfniaaDoor
