/-
  Rows of bits in memory; worlds that differ in one block. No program is named here.
-/
import Derived.Test.YtfhnjecnamgpkaaDoorBitsP
import Derived.Test.YtfhnjecnamgpkaaDoorOwnI
namespace Go.Proofs.YtfhnjecnamgpkaaDoor
open Go.RowKit

/-! ### Worlds that differ in some blocks -/
structure Chg (P : Nat → Prop) (w w' : World) : Prop where
  os : w'.os = w.os
  tape : w'.tape = w.tape
  output : w'.output = w.output
  size : w.heap.size ≤ w'.heap.size
  block : ∀ k, k < w.heap.size → ¬ P k → w'.heap[k]? = w.heap[k]?

theorem Chg.refl (P : Nat → Prop) (w : World) : Chg P w w := ⟨rfl, rfl, rfl, Nat.le_refl _, fun _ _ _ => rfl⟩
theorem Chg.trans {P : Nat → Prop} {a b c : World} (h : Chg P a b) (k : Chg P b c) : Chg P a c :=
  ⟨k.os.trans h.os, k.tape.trans h.tape, k.output.trans h.output, Nat.le_trans h.size k.size, fun i hi hp => (k.block i (Nat.lt_of_lt_of_le hi h.size) hp).trans (h.block i hi hp)⟩
theorem Chg.of_ext {P : Nat → Prop} {w w' : World} (h : Ext w w') : Chg P w w' := ⟨Below.os h, Below.tape h, Below.output h, Below.size h, fun k hk _ => Below.block h k hk⟩
theorem Chg.ext {w w' : World} (h : Chg (fun _ => False) w w') : Ext w w' := ⟨h.os, h.tape, h.output, h.size, fun k hk => h.block k hk fun a => a⟩
theorem Chg.mono {P Q : Nat → Prop} {w w' : World} (h : Chg P w w') (hpq : ∀ k, P k → Q k) : Chg Q w w' := ⟨h.os, h.tape, h.output, h.size, fun k hk hq => h.block k hk fun hp => hq (hpq k hp)⟩
theorem Chg.over {P : Nat → Prop} {v w w' : World} (h : Chg P w w') (hx : Ext v w) (hp : ∀ k, P k → v.heap.size ≤ k) : Ext v w' :=
  ⟨h.os.trans (Below.os hx), h.tape.trans (Below.tape hx), h.output.trans (Below.output hx), Nat.le_trans (Below.size hx) h.size,
    fun k hk => (h.block k (Nat.lt_of_lt_of_le hk (Below.size hx)) fun a => Nat.lt_irrefl _ (Nat.lt_of_lt_of_le hk (hp k a))).trans (Below.block hx k hk)⟩
theorem Chg.alloc {P : Nat → Prop} {a w : World} (h : Chg P a w) (o : Obj) : Chg P a (w.alloc o) := h.trans (Chg.of_ext ((Ext.refl w).alloc o))
theorem Chg.drew {P : Nat → Prop} {a w : World} (h : Chg P a w) : Chg P a w.drew := h.trans (Chg.of_ext (Ext.refl w).drew)
theorem Chg.drewN {P : Nat → Prop} {a w : World} (h : Chg P a w) (n : Nat) : Chg P a (w.drewN n) := h.trans (Chg.of_ext ((Ext.refl w).drewN n))
theorem Chg.setCell {P : Nat → Prop} {a w : World} (h : Chg P a w) {p : Addr} (hp : P p.block ∨ a.heap.size ≤ p.block) (u : Value) : Chg P a (w.setCell p u) := by
  have hb : Below 0 w (w.setCell p u) := Below.setCell (Below.refl 0 w) (Nat.zero_le _) u
  refine ⟨hb.os.trans h.os, hb.tape.trans h.tape, hb.output.trans h.output, Nat.le_trans h.size hb.size, fun k hk hn => ?_⟩
  rw [Below.heap_setCell w p u k]
  · exact h.block k hk hn
  · rintro rfl
    rcases hp with hp | hp
    · exact hn hp
    · exact Nat.lt_irrefl _ (Nat.lt_of_lt_of_le hk hp)
theorem Chg.cell {P : Nat → Prop} {w w' : World} (h : Chg P w w') {p : Addr} {v : Value} (hp : ¬ P p.block) (hc : w.cell? p = some v) : w'.cell? p = some v := by
  rw [World.cell?_of_block (w := w) (h.block p.block (cell_lt hc) hp)]; exact hc
theorem Chg.frozen {P : Nat → Prop} {w w' : World} (h : Chg P w w') {p : Addr} (hl : p.block < w.heap.size) (hp : ¬ P p.block) : w'.frozen? p = w.frozen? p :=
  World.frozen?_of_block (w := w) (h.block p.block hl hp)
theorem Chg.size' {P : Nat → Prop} {w w' : World} (h : Chg P w w') : w.heap.size ≤ w'.heap.size := h.size

theorem At.chg {k : IntKind} {P : Nat → Prop} {w w' : World} {a : Option Addr} {xs : List Int} (h : At k w a xs) (hx : Chg P w w') (hp : ∀ b o, a = some ⟨b, o, none⟩ → 0 < xs.length → ¬ P b) : At k w' a xs := by
  intro i hi
  obtain ⟨b, o, e, hc⟩ := h i hi
  exact ⟨b, o, e, hx.cell (hp b o e (by omega)) hc⟩

/-! ### Rows of bits: the box b leads to the words, which lie in block g, if there are any -/
structure RowAt (w : World) (b g : Nat) (bs : List Bool) : Prop where
  ex : ∃ a cap, w.cell? ⟨b, 0, none⟩ = some (.slice a (wlen bs.length) cap) ∧ At .u64 w a (wds bs) ∧ wlen bs.length ≤ cap ∧ cap ≤ maxLen ∧ (0 < bs.length → a = some ⟨g, 0, none⟩ ∧ ∀ o, w.frozen? ⟨g, o, none⟩ = false)
  many : w.cell? ⟨b, 1, none⟩ = some (.int .i64 bs.length)
  made : w.cell? ⟨b, 2, none⟩ = some (.bool true)
  most : bs.length ≤ 65536

/-- The blocks that what is done to a row may turn. -/
def tch (g : Nat) (bs : List Bool) (k : Nat) : Prop := 0 < bs.length ∧ k = g

theorem wlen_pos {n : Nat} (h : 0 < n) : 0 < wlen n := by unfold wlen; omega
theorem RowAt.lt {w : World} {b g : Nat} {bs : List Bool} (h : RowAt w b g bs) : b < w.heap.size := cell_lt h.many
theorem RowAt.glt {w : World} {b g : Nat} {bs : List Bool} (h : RowAt w b g bs) (hb : 0 < bs.length) : g < w.heap.size := by
  obtain ⟨a, cap, _, hA, _, _, hg⟩ := h.ex
  obtain ⟨x, o, e, hc⟩ := hA 0 (by rw [wds_len]; exact wlen_pos hb)
  rw [(hg hb).1] at e; cases e
  exact cell_lt hc
theorem RowAt.apart {w : World} {b g : Nat} {bs : List Bool} (h : RowAt w b g bs) (hb : 0 < bs.length) : g ≠ b := by
  obtain ⟨a, cap, h0, hA, _, _, hg⟩ := h.ex
  obtain ⟨x, o, e, hc⟩ := hA 0 (by rw [wds_len]; exact wlen_pos hb)
  rw [(hg hb).1] at e; cases e
  rintro rfl
  rw [h0] at hc; cases hc
theorem RowAt.chg {P : Nat → Prop} {w w' : World} {b g : Nat} {bs : List Bool} (h : RowAt w b g bs) (hx : Chg P w w') (hb : ¬ P b) (hg : 0 < bs.length → ¬ P g) : RowAt w' b g bs := by
  obtain ⟨a, cap, h0, hA, h1, h2, h3⟩ := h.ex
  refine ⟨⟨a, cap, hx.cell hb h0, hA.chg hx fun b' o e hl => ?_, h1, h2, fun hp => ⟨(h3 hp).1, fun o => ?_⟩⟩, hx.cell hb h.many, hx.cell hb h.made, h.most⟩
  · have hp : 0 < bs.length := by rw [wds_len] at hl; unfold wlen at hl; omega
    rw [(h3 hp).1] at e; cases e
    exact hg hp
  · rw [hx.frozen (p := ⟨g, o, none⟩) (h.glt hp) (hg hp)]; exact (h3 hp).2 o
theorem RowAt.ext {w w' : World} {b g : Nat} {bs : List Bool} (h : RowAt w b g bs) (hx : Ext w w') : RowAt w' b g bs := h.chg (P := fun _ => False) (Chg.of_ext hx) (fun a => a) (fun _ a => a)

/-- The words' cells. -/
theorem RowAt.word {w : World} {b g : Nat} {bs : List Bool} (h : RowAt w b g bs) (hb : 0 < bs.length) : ∀ k, k < wlen bs.length → w.cell? ⟨g, k, none⟩ = some (.int .u64 ((wd bs k : Nat) : Int)) := by
  obtain ⟨a, cap, _, hA, _, _, hg⟩ := h.ex
  intro k hk
  obtain ⟨x, o, e, hc⟩ := hA k (by rw [wds_len]; exact hk)
  rw [(hg hb).1] at e; cases e
  rw [Nat.zero_add] at hc
  rw [hc, wds_nth hk]

theorem nth_set {xs : List Int} {i j : Nat} {v : Int} (h : i < xs.length) : nth (xs.set i v) j = if j = i then v else nth xs j := by
  unfold nth
  by_cases e : j = i
  · subst e; simp [h]
  · rw [if_neg e]
    simp [List.getD, List.getElem?_set, Ne.symm e]
theorem At.set {k : IntKind} {w : World} {g j : Nat} {xs : List Int} (h : At k w (some ⟨g, 0, none⟩) xs) (hj : j < xs.length) (v : Int) : At k (w.setCell ⟨g, j, none⟩ (.int k v)) (some ⟨g, 0, none⟩) (xs.set j v) := by
  intro i hi
  rw [List.length_set] at hi
  refine ⟨g, 0, rfl, ?_⟩
  rw [Nat.zero_add]
  obtain ⟨b, o, e, hc⟩ := h i hi
  cases e
  rw [Nat.zero_add] at hc
  rw [nth_set hj]
  by_cases e : i = j
  · subst e
    rw [if_pos rfl]; exact World.cell?_setCell_same w _ _ hc
  · rw [if_neg e, World.cell?_setCell_other _ _ _ _ (by intro e'; cases e'; exact e rfl)]
    exact hc
theorem RowAt.setWord {w : World} {b g k : Nat} {bs bs' : List Bool} {v : Int} (h : RowAt w b g bs) (hp : 0 < bs.length) (hl : bs'.length = bs.length) (hk : k < wlen bs.length) (hs : wds bs' = (wds bs).set k v) : RowAt (w.setCell ⟨g, k, none⟩ (.int .u64 v)) b g bs' := by
  have hgb := h.apart hp
  obtain ⟨a, cap, h0, hA, h1, h2, h3⟩ := h.ex
  obtain ⟨rfl, hf⟩ := h3 hp
  have far : ∀ o u, w.cell? ⟨b, o, none⟩ = some u → (w.setCell ⟨g, k, none⟩ (.int .u64 v)).cell? ⟨b, o, none⟩ = some u := fun o u hc => by
    rw [cell_far _ _ _ _ (by exact hgb)]; exact hc
  refine ⟨⟨some ⟨g, 0, none⟩, cap, by rw [hl]; exact far _ _ h0, by rw [hs]; exact hA.set (by rw [wds_len]; exact hk) v, by rw [hl]; exact h1, h2, fun _ => ⟨rfl, fun o => by simpa using hf o⟩⟩, by rw [hl]; exact far _ _ h.many, far _ _ h.made, by rw [hl]; exact h.most⟩
theorem RowAt.drew {w : World} {b g : Nat} {bs : List Bool} (h : RowAt w b g bs) : RowAt w.drew b g bs := h.ext (Ext.refl w).drew
theorem Chg.word {w : World} {g k : Nat} {bs : List Bool} (hp : 0 < bs.length) (v : Value) : Chg (tch g bs) w (w.setCell ⟨g, k, none⟩ v) := (Chg.refl _ w).setCell (.inl ⟨hp, rfl⟩) v

end Go.Proofs.YtfhnjecnamgpkaaDoor
