/-
  Rows of truths in memory. No program is named here.
-/
import Derived.Test.YtfhnjecnamgpkaaDoorRow
namespace Go.Proofs.YtfhnjecnamgpkaaDoor
open Go.RowKit

/-- 'a' leads to the truths bs, one behind the other. -/
def BAt (w : World) (a : Option Addr) (bs : List Bool) : Prop :=
  ∀ i, i < bs.length → ∃ b o, a = some ⟨b, o, none⟩ ∧ w.cell? ⟨b, o + i, none⟩ = some (.bool (bnth bs i))
theorem BAt.pos {w : World} {a : Option Addr} {bs : List Bool} (h : BAt w a bs) (h0 : 0 < bs.length) :
    ∃ b o, a = some ⟨b, o, none⟩ ∧ ∀ i, i < bs.length → w.cell? ⟨b, o + i, none⟩ = some (.bool (bnth bs i)) := by
  obtain ⟨b, o, rfl, _⟩ := h 0 h0
  refine ⟨b, o, rfl, fun i hi => ?_⟩
  obtain ⟨b', o', e, hc⟩ := h i hi
  cases e; exact hc
theorem BAt.ext {w w' : World} {a : Option Addr} {bs : List Bool} (h : BAt w a bs) (hx : Ext w w') : BAt w' a bs := by
  intro i hi
  obtain ⟨b, o, e, hc⟩ := h i hi
  exact ⟨b, o, e, hx.cell hc⟩
theorem BAt.chg {P : Nat → Prop} {w w' : World} {a : Option Addr} {bs : List Bool} (h : BAt w a bs) (hx : Chg P w w') (hp : ∀ b o, a = some ⟨b, o, none⟩ → ¬ P b) : BAt w' a bs := by
  intro i hi
  obtain ⟨b, o, e, hc⟩ := h i hi
  exact ⟨b, o, e, hx.cell (hp b o e) hc⟩
theorem BAt.nil {w : World} {a : Option Addr} : BAt w a [] := fun _ h => absurd h (Nat.not_lt_zero _)
theorem BAt.mk {w : World} {b o : Nat} {bs : List Bool} (h : ∀ i, i < bs.length → w.cell? ⟨b, o + i, none⟩ = some (.bool (bnth bs i))) : BAt w (some ⟨b, o, none⟩) bs :=
  fun i hi => ⟨b, o, rfl, h i hi⟩
theorem BAt.set {w : World} {g j : Nat} {bs : List Bool} (h : BAt w (some ⟨g, 0, none⟩) bs) (hj : j < bs.length) (v : Bool) : BAt (w.setCell ⟨g, j, none⟩ (.bool v)) (some ⟨g, 0, none⟩) (bs.set j v) := by
  intro i hi
  rw [List.length_set] at hi
  refine ⟨g, 0, rfl, ?_⟩
  rw [Nat.zero_add]
  obtain ⟨b, o, e, hc⟩ := h i hi
  cases e
  rw [Nat.zero_add] at hc
  rw [bnth_set hj]
  by_cases e : i = j
  · subst e
    rw [if_pos rfl]; exact World.cell?_setCell_same w _ _ hc
  · rw [if_neg e, World.cell?_setCell_other _ _ _ _ (by intro e'; cases e'; exact e rfl)]
    exact hc

/-- Truths as cells. -/
def bcs (bs : List Bool) : List Value := bs.map Value.bool
theorem bcs_len (bs : List Bool) : (bcs bs).length = bs.length := by simp [bcs]
theorem bcs_one (bs : List Bool) : ∀ u ∈ bcs bs, u.oneCell' = true := by
  intro u hu
  simp only [bcs, List.mem_map] at hu
  obtain ⟨n, _, rfl⟩ := hu
  rfl
theorem bcs_at (bs : List Bool) (i : Nat) (h : i < bs.length) : (bcs bs)[i]? = some (.bool (bnth bs i)) := by
  simp [bcs, bnth, List.getD, h]
theorem bcs_news {w : World} {b o : Nat} {bs : List Bool} (h : ∀ i, i < bs.length → w.cell? ⟨b, o + i, none⟩ = some (.bool (bnth bs i))) :
    ∀ j u, (bcs bs)[j]? = some u → w.cell? ((⟨b, o, none⟩ : Addr).add j) = some u := by
  intro j u hj
  have hl : j < bs.length := by have := (List.getElem?_eq_some_iff.1 hj).1; rwa [bcs_len] at this
  rw [bcs_at bs j hl] at hj
  cases hj
  rw [Addr.add_lit]; exact h j hl
theorem bcs_snoc (l : List Bool) (p : Bool) : bcs l ++ [.bool p] = bcs (l ++ [p]) := by unfold bcs; rw [List.map_append]; rfl
theorem own_bits {w : World} {base e : Nat} {v : Value} {n : Nat} {bs : List Bool} (h : w.ownsRow base e 1 v n (bcs bs)) (h0 : 0 < n) :
    ∃ g cap, v = .slice (some ⟨g, 0, none⟩) n cap ∧ base ≤ g ∧ g < w.heap.size ∧ n = bs.length ∧ n ≤ cap ∧ cap ≤ maxLen ∧ BAt w (some ⟨g, 0, none⟩) bs ∧ ∀ o, w.frozen? ⟨g, o, none⟩ = false := by
  have hn : n = bs.length := by have := h.1; rw [bcs_len] at this; omega
  have h' := h
  obtain ⟨_, ⟨rfl, rfl⟩ | ⟨g, cap, cur, rfl, hb, hh, hc, hm, hs, ht⟩⟩ := h
  · exact absurd h0 (Nat.lt_irrefl 0)
  · refine ⟨g, cap, rfl, hb, (Array.getElem?_eq_some_iff.1 hh).1, hn, hc, hm, ?_, fun o => h'.frozenAt o⟩
    refine BAt.mk fun i hi => ?_
    rw [Nat.zero_add, h'.cellAt _ (by omega)]; exact bcs_at bs i hi

/-- A row of truths of the call's own. -/
structure NewBits (w w' : World) (a : Option Addr) (cap : Nat) (bs : List Bool) : Prop where
  row : BAt w' a bs
  cap1 : bs.length ≤ cap
  cap2 : cap ≤ maxLen
  own : 0 < bs.length → ∃ g, a = some ⟨g, 0, none⟩ ∧ w.heap.size ≤ g ∧ g < w'.heap.size ∧ ∀ o, w'.frozen? ⟨g, o, none⟩ = false
theorem newBits_of {w w1 : World} {e : Nat} {v : Value} {bs : List Bool} (h : w1.ownsRow w.heap.size e 1 v bs.length (bcs bs)) : ∃ a cap, v = .slice a bs.length cap ∧ NewBits w w1 a cap bs := by
  rcases Nat.eq_zero_or_pos bs.length with c | c
  · obtain rfl := List.length_eq_zero_iff.1 c
    obtain ⟨_, ⟨rfl, _⟩ | ⟨g, cap, cur, rfl, hb, hh, hc, hm, hs, ht⟩⟩ := h
    · exact ⟨none, 0, rfl, BAt.nil, Nat.le_refl _, Nat.zero_le _, fun hi => absurd hi (Nat.lt_irrefl 0)⟩
    · exact ⟨_, cap, rfl, BAt.nil, hc, hm, fun hi => absurd hi (Nat.lt_irrefl 0)⟩
  · obtain ⟨g, cap, rfl, h1, h2, _, h4, h5, h6, h7⟩ := own_bits h c
    exact ⟨_, cap, rfl, h6, h4, h5, fun _ => ⟨g, rfl, h1, h2, h7⟩⟩
theorem NewBits.lower {w W0 w' : World} {a : Option Addr} {cap : Nat} {bs : List Bool} (h : NewBits W0 w' a cap bs) (hl : w.heap.size ≤ W0.heap.size) : NewBits w w' a cap bs :=
  ⟨h.row, h.cap1, h.cap2, fun h0 => by obtain ⟨g, e, h1, h2⟩ := h.own h0; exact ⟨g, e, Nat.le_trans hl h1, h2⟩⟩

/-- Whatever 'a' leads to lies in a block from B on. -/
def Far (B : Nat) (a : Option Addr) : Prop := ∀ x o, a = some ⟨x, o, none⟩ → B ≤ x
theorem own_far {w : World} {base e n n' cap : Nat} {a : Option Addr} {xs : List Value} (h : w.ownsRow base e 1 (.slice a n' cap) n xs) : Far base a := by
  intro x o ea
  obtain ⟨_, ⟨e1, _⟩ | ⟨g, c, cur, e1, hb, _⟩⟩ := h
  · cases e1; cases ea
  · cases e1; cases ea; exact hb
theorem Far.mono {A B : Nat} {a : Option Addr} (h : Far B a) (hab : A ≤ B) : Far A a := fun x o e => Nat.le_trans hab (h x o e)

end Go.Proofs.YtfhnjecnamgpkaaDoor
