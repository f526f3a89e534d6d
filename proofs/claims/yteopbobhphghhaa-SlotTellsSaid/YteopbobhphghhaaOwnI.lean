/-
  Rows of a call's own making that hold numbers: what is read of them, and what a store leaves. No program is named here.
-/
import Derived.Test.YteopbobhphghhaaBase
import Derived.Laws.AppendOwn
import Derived.Laws.OwnMore
import Derived.OwnWalk
import Derived.ArgAppend
import Derived.Deep.AppendLies
namespace Go.Proofs.Yteopbobhphghhaa
open Go.RowKit

theorem cell_far (w : World) (p a : Addr) (v : Value) (h : p.block ≠ a.block) : (w.setCell p v).cell? a = w.cell? a := by
  have e := heap_setCell_other w p a.block v (Ne.symm h)
  unfold World.cell?
  rw [e]
theorem Ext.frozenAt {w w' : World} (h : Ext w w') {p : Addr} {v : Value} (hc : w.cell? p = some v) (hf : w.frozen? p = false) : w'.frozen? p = false := by
  rw [h.frozen (cell_lt hc)]; exact hf
theorem own_ext {W W1 : World} {base e size n : Nat} {v : Value} {xs : List Value} (h : W.ownsRow base e size v n xs) (hx : Ext W W1) : W1.ownsRow base e size v n xs := by
  obtain ⟨h1, h2 | ⟨g, cap, cur, h2, h3, h4, h5⟩⟩ := h
  · exact ⟨h1, .inl h2⟩
  · exact ⟨h1, .inr ⟨g, cap, cur, h2, h3, hx.block h4, h5⟩⟩
theorem own_setCell {W : World} {base e size n : Nat} {v : Value} {xs : List Value} (h : W.ownsRow base e size v n xs) {p : Addr} (hp : p.block < base) (u : Value) : (W.setCell p u).ownsRow base e size v n xs := by
  obtain ⟨h1, h2 | ⟨g, cap, cur, h2, h3, h4, h5⟩⟩ := h
  · exact ⟨h1, .inl h2⟩
  · exact ⟨h1, .inr ⟨g, cap, cur, h2, h3, by rw [heap_setCell_other _ _ _ _ (by omega)]; exact h4, h5⟩⟩
theorem Ext.grown {w W W' : World} (h : Ext w W) {row : Option Nat} (hg : W.grownBy W' row) (hr : ∀ k, row = some k → w.heap.size ≤ k) : Ext w W' := Ext.of (h.below.grown hg h.size hr)
theorem grow_cell {W W1 w2 : World} {row : Option Nat} (hg : W1.grownBy w2 row) (hx : Ext W W1) {p : Addr} {v : Value} (hc : W.cell? p = some v) (hne : some p.block ≠ row) : w2.cell? p = some v := by
  rw [hg.cell_far _ (cell_lt (hx.cell hc)) hne]; exact hx.cell hc
theorem grow_frozen {W W1 w2 : World} {row : Option Nat} (hg : W1.grownBy w2 row) (hx : Ext W W1) {p : Addr} {v : Value} (hc : W.cell? p = some v) (hf : W.frozen? p = false) (hne : some p.block ≠ row) : w2.frozen? p = false := by
  rw [hg.frozen_far _ (cell_lt (hx.cell hc)) hne]; exact hx.frozenAt hc hf
theorem news1 (w : World) (v : Value) (t : TypeId) : ∀ j u, [v][j]? = some u → (w.alloc (.cells #[v] t)).cell? ((⟨w.heap.size, 0, none⟩ : Addr).add j) = some u := by
  intro j u h
  match j, h with
  | 0, h => cases h; rw [Addr.add_lit]; exact cell_new1 w v t
theorem one1 {v : Value} (h : v.oneCell' = true) : ∀ u ∈ [v], u.oneCell' = true := by
  intro u hu
  simp only [List.mem_singleton] at hu
  subst hu; exact h

/-- Numbers as cells. -/
def ncs (k : IntKind) (xs : List Int) : List Value := xs.map (Value.int k)
theorem ncs_len (k : IntKind) (xs : List Int) : (ncs k xs).length = xs.length := by simp [ncs]
theorem ncs_one (k : IntKind) (xs : List Int) : ∀ u ∈ ncs k xs, u.oneCell' = true := by
  intro u hu
  simp only [ncs, List.mem_map] at hu
  obtain ⟨n, _, rfl⟩ := hu
  rfl
theorem ncs_at (k : IntKind) (xs : List Int) (i : Nat) (h : i < xs.length) : (ncs k xs)[i]? = some (.int k (nth xs i)) := by
  simp [ncs, nth, List.getD, h]
theorem ncs_news {k : IntKind} {w : World} {b o : Nat} {xs : List Int} (h : ∀ i, i < xs.length → w.cell? ⟨b, o + i, none⟩ = some (.int k (nth xs i))) :
    ∀ j u, (ncs k xs)[j]? = some u → w.cell? ((⟨b, o, none⟩ : Addr).add j) = some u := by
  intro j u hj
  have hl : j < xs.length := by have := (List.getElem?_eq_some_iff.1 hj).1; rwa [ncs_len] at this
  rw [ncs_at k xs j hl] at hj
  cases hj
  rw [Addr.add_lit]; exact h j hl
theorem own_ints {k : IntKind} {w : World} {base e : Nat} {v : Value} {n : Nat} {xs : List Int} (h : w.ownsRow base e 1 v n (ncs k xs)) (h0 : 0 < n) :
    ∃ g cap, v = .slice (some ⟨g, 0, none⟩) n cap ∧ base ≤ g ∧ g < w.heap.size ∧ n = xs.length ∧ n ≤ cap ∧ cap ≤ maxLen ∧ At k w (some ⟨g, 0, none⟩) xs ∧ ∀ o, w.frozen? ⟨g, o, none⟩ = false := by
  have hn : n = xs.length := by have := h.1; rw [ncs_len] at this; omega
  have h' := h
  obtain ⟨_, ⟨rfl, rfl⟩ | ⟨g, cap, cur, rfl, hb, hh, hc, hm, hs, ht⟩⟩ := h
  · exact absurd h0 (Nat.lt_irrefl 0)
  · refine ⟨g, cap, rfl, hb, (Array.getElem?_eq_some_iff.1 hh).1, hn, hc, hm, ?_, fun o => h'.frozenAt o⟩
    refine At.mk fun i hi => ?_
    rw [Nat.zero_add, h'.cellAt _ (by omega)]; exact ncs_at k xs i hi

/-- A row of numbers of the call's own. -/
structure NewInts (k : IntKind) (w w' : World) (a : Option Addr) (cap : Nat) (xs : List Int) : Prop where
  row : At k w' a xs
  cap1 : xs.length ≤ cap
  cap2 : cap ≤ maxLen
  own : 0 < xs.length → ∃ g, a = some ⟨g, 0, none⟩ ∧ w.heap.size ≤ g ∧ g < w'.heap.size ∧ ∀ o, w'.frozen? ⟨g, o, none⟩ = false
theorem newInts_of {k : IntKind} {w w1 : World} {e : Nat} {v : Value} {xs : List Int} (h : w1.ownsRow w.heap.size e 1 v xs.length (ncs k xs)) : ∃ a cap, v = .slice a xs.length cap ∧ NewInts k w w1 a cap xs := by
  rcases Nat.eq_zero_or_pos xs.length with c | c
  · obtain rfl := List.length_eq_zero_iff.1 c
    obtain ⟨_, ⟨rfl, _⟩ | ⟨g, cap, cur, rfl, hb, hh, hc, hm, hs, ht⟩⟩ := h
    · exact ⟨none, 0, rfl, At.nil, Nat.le_refl _, Nat.zero_le _, fun hi => absurd hi (Nat.lt_irrefl 0)⟩
    · exact ⟨_, cap, rfl, At.nil, hc, hm, fun hi => absurd hi (Nat.lt_irrefl 0)⟩
  · obtain ⟨g, cap, rfl, h1, h2, _, h4, h5, h6, h7⟩ := own_ints h c
    exact ⟨_, cap, rfl, h6, h4, h5, fun _ => ⟨g, rfl, h1, h2, h7⟩⟩
theorem NewInts.lower {k : IntKind} {w W0 w' : World} {a : Option Addr} {cap : Nat} {xs : List Int} (h : NewInts k W0 w' a cap xs) (hl : w.heap.size ≤ W0.heap.size) : NewInts k w w' a cap xs :=
  ⟨h.row, h.cap1, h.cap2, fun h0 => by obtain ⟨g, e, h1, h2⟩ := h.own h0; exact ⟨g, e, Nat.le_trans hl h1, h2⟩⟩
theorem NewInts.ext {k : IntKind} {W0 w' w'' : World} {a : Option Addr} {cap : Nat} {xs : List Int} (h : NewInts k W0 w' a cap xs) (hx : Ext w' w'') : NewInts k W0 w'' a cap xs :=
  ⟨h.row.ext hx, h.cap1, h.cap2, fun h0 => by
    obtain ⟨g, e, h1, h2, h3⟩ := h.own h0
    exact ⟨g, e, h1, Nat.lt_of_lt_of_le h2 hx.size, fun o => by rw [hx.frozen (p := ⟨g, o, none⟩) h2]; exact h3 o⟩⟩
theorem NewInts.setCell {k : IntKind} {W0 w' : World} {a : Option Addr} {cap : Nat} {xs : List Int} (h : NewInts k W0 w' a cap xs) {p : Addr} (hp : p.block < W0.heap.size) (u : Value) : NewInts k W0 (w'.setCell p u) a cap xs := by
  refine ⟨fun i hi => ?_, h.cap1, h.cap2, fun h0 => ?_⟩
  · obtain ⟨g, rfl, h1, _⟩ := h.own (by omega)
    obtain ⟨b, o, e, hc⟩ := h.row i hi
    cases e
    refine ⟨g, 0, rfl, ?_⟩
    rw [cell_far _ _ _ _ (by show p.block ≠ g; omega)]; exact hc
  · obtain ⟨g, e, h1, h2, h3⟩ := h.own h0
    exact ⟨g, e, h1, by simpa using h2, fun o => by simpa using h3 o⟩

/-- What a call that clones a row of numbers hands back. -/
def ClonedInts (k : IntKind) (xs : List Int) (w : World) (e : Ending) (w' : World) : Prop := ∃ a cap, e = .returned (.slice a xs.length cap) ∧ NewInts k w w' a cap xs ∧ Ext w w'

theorem ncs_snoc (k : IntKind) (l : List Int) (p : Int) : ncs k l ++ [.int k p] = ncs k (l ++ [p]) := by unfold ncs; rw [List.map_append]; rfl

end Go.Proofs.Yteopbobhphghhaa
