/-
  Worlds that differ in some blocks alone.
-/
import Derived.Test.YteopbobhphghhaaOwnI
namespace Go.Proofs.Yteopbobhphghhaa
open Go.RowKit

/-! ### Worlds that differ in some blocks -/
structure Chg (P : Nat → Prop) (w w' : World) : Prop where
  os : w'.os = w.os
  tape : w'.tape = w.tape
  output : w'.output = w.output
  size : w.heap.size ≤ w'.heap.size
  block : ∀ k, k < w.heap.size → ¬ P k → w'.heap[k]? = w.heap[k]?

theorem Chg.refl (P : Nat → Prop) (w : World) : Chg P w w := ⟨rfl, rfl, rfl, Nat.le_refl _, fun _ _ _ => rfl⟩
theorem Chg.trans {P : Nat → Prop} {a b c : World} (h : Chg P a b) (k : Chg P b c) : Chg P a c :=
  ⟨k.os.trans h.os, k.tape.trans h.tape, k.output.trans h.output, Nat.le_trans h.size k.size, fun i hi hp => (k.block i (Nat.lt_of_lt_of_le hi h.size) hp).trans (h.block i hi hp)⟩
theorem Chg.of_ext {P : Nat → Prop} {w w' : World} (h : Ext w w') : Chg P w w' := ⟨Below.os h, Below.tape h, Below.output h, Below.size h, fun k hk _ => Below.block h k hk⟩
theorem Chg.ext {w w' : World} (h : Chg (fun _ => False) w w') : Ext w w' := ⟨h.os, h.tape, h.output, h.size, fun k hk => h.block k hk fun a => a⟩
theorem Chg.mono {P Q : Nat → Prop} {w w' : World} (h : Chg P w w') (hpq : ∀ k, P k → Q k) : Chg Q w w' := ⟨h.os, h.tape, h.output, h.size, fun k hk hq => h.block k hk fun hp => hq (hpq k hp)⟩
theorem Chg.over {P : Nat → Prop} {v w w' : World} (h : Chg P w w') (hx : Ext v w) (hp : ∀ k, P k → v.heap.size ≤ k) : Ext v w' :=
  ⟨h.os.trans (Below.os hx), h.tape.trans (Below.tape hx), h.output.trans (Below.output hx), Nat.le_trans (Below.size hx) h.size,
    fun k hk => (h.block k (Nat.lt_of_lt_of_le hk (Below.size hx)) fun a => Nat.lt_irrefl _ (Nat.lt_of_lt_of_le hk (hp k a))).trans (Below.block hx k hk)⟩
theorem Chg.alloc {P : Nat → Prop} {a w : World} (h : Chg P a w) (o : Obj) : Chg P a (w.alloc o) := h.trans (Chg.of_ext ((Ext.refl w).alloc o))
theorem Chg.drew {P : Nat → Prop} {a w : World} (h : Chg P a w) : Chg P a w.drew := h.trans (Chg.of_ext (Ext.refl w).drew)
theorem Chg.drewN {P : Nat → Prop} {a w : World} (h : Chg P a w) (n : Nat) : Chg P a (w.drewN n) := h.trans (Chg.of_ext ((Ext.refl w).drewN n))
theorem Chg.setCell {P : Nat → Prop} {a w : World} (h : Chg P a w) {p : Addr} (hp : P p.block ∨ a.heap.size ≤ p.block) (u : Value) : Chg P a (w.setCell p u) := by
  have hb : Below 0 w (w.setCell p u) := Below.setCell (Below.refl 0 w) (Nat.zero_le _) u
  refine ⟨hb.os.trans h.os, hb.tape.trans h.tape, hb.output.trans h.output, Nat.le_trans h.size hb.size, fun k hk hn => ?_⟩
  rw [Below.heap_setCell w p u k]
  · exact h.block k hk hn
  · rintro rfl
    rcases hp with hp | hp
    · exact hn hp
    · exact Nat.lt_irrefl _ (Nat.lt_of_lt_of_le hk hp)
theorem Chg.cell {P : Nat → Prop} {w w' : World} (h : Chg P w w') {p : Addr} {v : Value} (hp : ¬ P p.block) (hc : w.cell? p = some v) : w'.cell? p = some v := by
  rw [World.cell?_of_block (w := w) (h.block p.block (cell_lt hc) hp)]; exact hc
theorem Chg.frozen {P : Nat → Prop} {w w' : World} (h : Chg P w w') {p : Addr} (hl : p.block < w.heap.size) (hp : ¬ P p.block) : w'.frozen? p = w.frozen? p :=
  World.frozen?_of_block (w := w) (h.block p.block hl hp)
theorem Chg.size' {P : Nat → Prop} {w w' : World} (h : Chg P w w') : w.heap.size ≤ w'.heap.size := h.size

theorem At.chg {k : IntKind} {P : Nat → Prop} {w w' : World} {a : Option Addr} {xs : List Int} (h : At k w a xs) (hx : Chg P w w') (hp : ∀ b o, a = some ⟨b, o, none⟩ → 0 < xs.length → ¬ P b) : At k w' a xs := by
  intro i hi
  obtain ⟨b, o, e, hc⟩ := h i hi
  exact ⟨b, o, e, hx.cell (hp b o e (by omega)) hc⟩


theorem nth_set {xs : List Int} {i j : Nat} {v : Int} (h : i < xs.length) : nth (xs.set i v) j = if j = i then v else nth xs j := by
  unfold nth
  by_cases e : j = i
  · subst e; simp [h]
  · rw [if_neg e]
    simp [List.getD, List.getElem?_set, Ne.symm e]
theorem At.set {k : IntKind} {w : World} {g j : Nat} {xs : List Int} (h : At k w (some ⟨g, 0, none⟩) xs) (hj : j < xs.length) (v : Int) : At k (w.setCell ⟨g, j, none⟩ (.int k v)) (some ⟨g, 0, none⟩) (xs.set j v) := by
  intro i hi
  rw [List.length_set] at hi
  refine ⟨g, 0, rfl, ?_⟩
  rw [Nat.zero_add]
  obtain ⟨b, o, e, hc⟩ := h i hi
  cases e
  rw [Nat.zero_add] at hc
  rw [nth_set hj]
  by_cases e : i = j
  · subst e
    rw [if_pos rfl]; exact World.cell?_setCell_same w _ _ hc
  · rw [if_neg e, World.cell?_setCell_other _ _ _ _ (by intro e'; cases e'; exact e rfl)]
    exact hc
theorem Chg.setCells {P : Nat → Prop} {b : Nat} : ∀ (vs : List Value) (o : Nat) {a w : World}, Chg P a w → P b → Chg P a (w.setCells b o vs)
  | [], _, _, _, h, _ => h
  | v :: vs, o, _, _, h, hp => Chg.setCells vs (o + 1) (h.setCell (p := ⟨b, o, none⟩) (.inl hp) v) hp

end Go.Proofs.Yteopbobhphghhaa
