/-
  Merged texts: OwnI, Chg, Ent, ClassC, Conf.
-/
import Derived.Test.YtnbngcagnchkdaaDoorQ01
import Derived.Laws.AppendOwn
import Derived.Laws.OwnMore
import Derived.OwnWalk
import Derived.ArgAppend
import Derived.Deep.AppendLies
import Derived.WalkKit
import Derived.WalkSpells
import Derived.WalkLawsBesides
import Derived.Test.YtnbngcagnchkdaaDoorProg
import Derived.Outline
import Derived.BigQuiet
import Derived.Deep.QuietTactic
set_option linter.unusedVariables false
set_option linter.unusedSimpArgs false
/-! Rows of a call's own making that hold numbers: what is read of them, and what a store leaves. No program is named here. -/
namespace Go.Proofs.YtnbngcagnchkdaaDoor
open Go.RowKit

theorem cell_far (w : World) (p a : Addr) (v : Value) (h : p.block ≠ a.block) : (w.setCell p v).cell? a = w.cell? a := by
  have e := heap_setCell_other w p a.block v (Ne.symm h)
  unfold World.cell?
  rw [e]
theorem Ext.frozenAt {w w' : World} (h : Ext w w') {p : Addr} {v : Value} (hc : w.cell? p = some v) (hf : w.frozen? p = false) : w'.frozen? p = false := by
  rw [h.frozen (cell_lt hc)]; exact hf
theorem own_ext {W W1 : World} {base e size n : Nat} {v : Value} {xs : List Value} (h : W.ownsRow base e size v n xs) (hx : Ext W W1) : W1.ownsRow base e size v n xs := by
  obtain ⟨h1, h2 | ⟨g, cap, cur, h2, h3, h4, h5⟩⟩ := h
  · exact ⟨h1, .inl h2⟩
  · exact ⟨h1, .inr ⟨g, cap, cur, h2, h3, hx.block h4, h5⟩⟩
theorem own_setCell {W : World} {base e size n : Nat} {v : Value} {xs : List Value} (h : W.ownsRow base e size v n xs) {p : Addr} (hp : p.block < base) (u : Value) : (W.setCell p u).ownsRow base e size v n xs := by
  obtain ⟨h1, h2 | ⟨g, cap, cur, h2, h3, h4, h5⟩⟩ := h
  · exact ⟨h1, .inl h2⟩
  · exact ⟨h1, .inr ⟨g, cap, cur, h2, h3, by rw [heap_setCell_other _ _ _ _ (by omega)]; exact h4, h5⟩⟩
theorem Ext.grown {w W W' : World} (h : Ext w W) {row : Option Nat} (hg : W.grownBy W' row) (hr : ∀ k, row = some k → w.heap.size ≤ k) : Ext w W' := Ext.of (h.below.grown hg h.size hr)
theorem grow_cell {W W1 w2 : World} {row : Option Nat} (hg : W1.grownBy w2 row) (hx : Ext W W1) {p : Addr} {v : Value} (hc : W.cell? p = some v) (hne : some p.block ≠ row) : w2.cell? p = some v := by
  rw [hg.cell_far _ (cell_lt (hx.cell hc)) hne]; exact hx.cell hc
theorem grow_frozen {W W1 w2 : World} {row : Option Nat} (hg : W1.grownBy w2 row) (hx : Ext W W1) {p : Addr} {v : Value} (hc : W.cell? p = some v) (hf : W.frozen? p = false) (hne : some p.block ≠ row) : w2.frozen? p = false := by
  rw [hg.frozen_far _ (cell_lt (hx.cell hc)) hne]; exact hx.frozenAt hc hf
theorem news1 (w : World) (v : Value) (t : TypeId) : ∀ j u, [v][j]? = some u → (w.alloc (.cells #[v] t)).cell? ((⟨w.heap.size, 0, none⟩ : Addr).add j) = some u := by
  intro j u h
  match j, h with
  | 0, h => cases h; rw [Addr.add_lit]; exact cell_new1 w v t
theorem one1 {v : Value} (h : v.oneCell' = true) : ∀ u ∈ [v], u.oneCell' = true := by
  intro u hu
  simp only [List.mem_singleton] at hu
  subst hu; exact h

/-- Numbers as cells. -/
def ncs (k : IntKind) (xs : List Int) : List Value := xs.map (Value.int k)
theorem ncs_len (k : IntKind) (xs : List Int) : (ncs k xs).length = xs.length := by simp [ncs]
theorem ncs_one (k : IntKind) (xs : List Int) : ∀ u ∈ ncs k xs, u.oneCell' = true := by
  intro u hu
  simp only [ncs, List.mem_map] at hu
  obtain ⟨n, _, rfl⟩ := hu
  rfl
theorem ncs_at (k : IntKind) (xs : List Int) (i : Nat) (h : i < xs.length) : (ncs k xs)[i]? = some (.int k (nth xs i)) := by
  simp [ncs, nth, List.getD, h]
theorem ncs_news {k : IntKind} {w : World} {b o : Nat} {xs : List Int} (h : ∀ i, i < xs.length → w.cell? ⟨b, o + i, none⟩ = some (.int k (nth xs i))) :
    ∀ j u, (ncs k xs)[j]? = some u → w.cell? ((⟨b, o, none⟩ : Addr).add j) = some u := by
  intro j u hj
  have hl : j < xs.length := by have := (List.getElem?_eq_some_iff.1 hj).1; rwa [ncs_len] at this
  rw [ncs_at k xs j hl] at hj
  cases hj
  rw [Addr.add_lit]; exact h j hl
theorem own_ints {k : IntKind} {w : World} {base e : Nat} {v : Value} {n : Nat} {xs : List Int} (h : w.ownsRow base e 1 v n (ncs k xs)) (h0 : 0 < n) :
    ∃ g cap, v = .slice (some ⟨g, 0, none⟩) n cap ∧ base ≤ g ∧ g < w.heap.size ∧ n = xs.length ∧ n ≤ cap ∧ cap ≤ maxLen ∧ At k w (some ⟨g, 0, none⟩) xs ∧ ∀ o, w.frozen? ⟨g, o, none⟩ = false := by
  have hn : n = xs.length := by have := h.1; rw [ncs_len] at this; omega
  have h' := h
  obtain ⟨_, ⟨rfl, rfl⟩ | ⟨g, cap, cur, rfl, hb, hh, hc, hm, hs, ht⟩⟩ := h
  · exact absurd h0 (Nat.lt_irrefl 0)
  · refine ⟨g, cap, rfl, hb, (Array.getElem?_eq_some_iff.1 hh).1, hn, hc, hm, ?_, fun o => h'.frozenAt o⟩
    refine At.mk fun i hi => ?_
    rw [Nat.zero_add, h'.cellAt _ (by omega)]; exact ncs_at k xs i hi

/-- A row of numbers of the call's own. -/
structure NewInts (k : IntKind) (w w' : World) (a : Option Addr) (cap : Nat) (xs : List Int) : Prop where
  row : At k w' a xs
  cap1 : xs.length ≤ cap
  cap2 : cap ≤ maxLen
  own : 0 < xs.length → ∃ g, a = some ⟨g, 0, none⟩ ∧ w.heap.size ≤ g ∧ g < w'.heap.size ∧ ∀ o, w'.frozen? ⟨g, o, none⟩ = false
theorem newInts_of {k : IntKind} {w w1 : World} {e : Nat} {v : Value} {xs : List Int} (h : w1.ownsRow w.heap.size e 1 v xs.length (ncs k xs)) : ∃ a cap, v = .slice a xs.length cap ∧ NewInts k w w1 a cap xs := by
  rcases Nat.eq_zero_or_pos xs.length with c | c
  · obtain rfl := List.length_eq_zero_iff.1 c
    obtain ⟨_, ⟨rfl, _⟩ | ⟨g, cap, cur, rfl, hb, hh, hc, hm, hs, ht⟩⟩ := h
    · exact ⟨none, 0, rfl, At.nil, Nat.le_refl _, Nat.zero_le _, fun hi => absurd hi (Nat.lt_irrefl 0)⟩
    · exact ⟨_, cap, rfl, At.nil, hc, hm, fun hi => absurd hi (Nat.lt_irrefl 0)⟩
  · obtain ⟨g, cap, rfl, h1, h2, _, h4, h5, h6, h7⟩ := own_ints h c
    exact ⟨_, cap, rfl, h6, h4, h5, fun _ => ⟨g, rfl, h1, h2, h7⟩⟩
theorem NewInts.lower {k : IntKind} {w W0 w' : World} {a : Option Addr} {cap : Nat} {xs : List Int} (h : NewInts k W0 w' a cap xs) (hl : w.heap.size ≤ W0.heap.size) : NewInts k w w' a cap xs :=
  ⟨h.row, h.cap1, h.cap2, fun h0 => by obtain ⟨g, e, h1, h2⟩ := h.own h0; exact ⟨g, e, Nat.le_trans hl h1, h2⟩⟩
theorem NewInts.ext {k : IntKind} {W0 w' w'' : World} {a : Option Addr} {cap : Nat} {xs : List Int} (h : NewInts k W0 w' a cap xs) (hx : Ext w' w'') : NewInts k W0 w'' a cap xs :=
  ⟨h.row.ext hx, h.cap1, h.cap2, fun h0 => by
    obtain ⟨g, e, h1, h2, h3⟩ := h.own h0
    exact ⟨g, e, h1, Nat.lt_of_lt_of_le h2 hx.size, fun o => by rw [hx.frozen (p := ⟨g, o, none⟩) h2]; exact h3 o⟩⟩
theorem NewInts.setCell {k : IntKind} {W0 w' : World} {a : Option Addr} {cap : Nat} {xs : List Int} (h : NewInts k W0 w' a cap xs) {p : Addr} (hp : p.block < W0.heap.size) (u : Value) : NewInts k W0 (w'.setCell p u) a cap xs := by
  refine ⟨fun i hi => ?_, h.cap1, h.cap2, fun h0 => ?_⟩
  · obtain ⟨g, rfl, h1, _⟩ := h.own (by omega)
    obtain ⟨b, o, e, hc⟩ := h.row i hi
    cases e
    refine ⟨g, 0, rfl, ?_⟩
    rw [cell_far _ _ _ _ (by show p.block ≠ g; omega)]; exact hc
  · obtain ⟨g, e, h1, h2, h3⟩ := h.own h0
    exact ⟨g, e, h1, by simpa using h2, fun o => by simpa using h3 o⟩

/-- What a call that clones a row of numbers hands back. -/
def ClonedInts (k : IntKind) (xs : List Int) (w : World) (e : Ending) (w' : World) : Prop := ∃ a cap, e = .returned (.slice a xs.length cap) ∧ NewInts k w w' a cap xs ∧ Ext w w'

theorem ncs_snoc (k : IntKind) (l : List Int) (p : Int) : ncs k l ++ [.int k p] = ncs k (l ++ [p]) := by unfold ncs; rw [List.map_append]; rfl

end Go.Proofs.YtnbngcagnchkdaaDoor

/-! Worlds that differ in some blocks alone. -/
namespace Go.Proofs.YtnbngcagnchkdaaDoor
open Go.RowKit

/-! ### Worlds that differ in some blocks -/
structure Chg (P : Nat → Prop) (w w' : World) : Prop where
  os : w'.os = w.os
  tape : w'.tape = w.tape
  output : w'.output = w.output
  size : w.heap.size ≤ w'.heap.size
  block : ∀ k, k < w.heap.size → ¬ P k → w'.heap[k]? = w.heap[k]?

theorem Chg.refl (P : Nat → Prop) (w : World) : Chg P w w := ⟨rfl, rfl, rfl, Nat.le_refl _, fun _ _ _ => rfl⟩
theorem Chg.trans {P : Nat → Prop} {a b c : World} (h : Chg P a b) (k : Chg P b c) : Chg P a c :=
  ⟨k.os.trans h.os, k.tape.trans h.tape, k.output.trans h.output, Nat.le_trans h.size k.size, fun i hi hp => (k.block i (Nat.lt_of_lt_of_le hi h.size) hp).trans (h.block i hi hp)⟩
theorem Chg.of_ext {P : Nat → Prop} {w w' : World} (h : Ext w w') : Chg P w w' := ⟨Below.os h, Below.tape h, Below.output h, Below.size h, fun k hk _ => Below.block h k hk⟩
theorem Chg.ext {w w' : World} (h : Chg (fun _ => False) w w') : Ext w w' := ⟨h.os, h.tape, h.output, h.size, fun k hk => h.block k hk fun a => a⟩
theorem Chg.mono {P Q : Nat → Prop} {w w' : World} (h : Chg P w w') (hpq : ∀ k, P k → Q k) : Chg Q w w' := ⟨h.os, h.tape, h.output, h.size, fun k hk hq => h.block k hk fun hp => hq (hpq k hp)⟩
theorem Chg.over {P : Nat → Prop} {v w w' : World} (h : Chg P w w') (hx : Ext v w) (hp : ∀ k, P k → v.heap.size ≤ k) : Ext v w' :=
  ⟨h.os.trans (Below.os hx), h.tape.trans (Below.tape hx), h.output.trans (Below.output hx), Nat.le_trans (Below.size hx) h.size,
    fun k hk => (h.block k (Nat.lt_of_lt_of_le hk (Below.size hx)) fun a => Nat.lt_irrefl _ (Nat.lt_of_lt_of_le hk (hp k a))).trans (Below.block hx k hk)⟩
theorem Chg.alloc {P : Nat → Prop} {a w : World} (h : Chg P a w) (o : Obj) : Chg P a (w.alloc o) := h.trans (Chg.of_ext ((Ext.refl w).alloc o))
theorem Chg.drew {P : Nat → Prop} {a w : World} (h : Chg P a w) : Chg P a w.drew := h.trans (Chg.of_ext (Ext.refl w).drew)
theorem Chg.drewN {P : Nat → Prop} {a w : World} (h : Chg P a w) (n : Nat) : Chg P a (w.drewN n) := h.trans (Chg.of_ext ((Ext.refl w).drewN n))
theorem Chg.setCell {P : Nat → Prop} {a w : World} (h : Chg P a w) {p : Addr} (hp : P p.block ∨ a.heap.size ≤ p.block) (u : Value) : Chg P a (w.setCell p u) := by
  have hb : Below 0 w (w.setCell p u) := Below.setCell (Below.refl 0 w) (Nat.zero_le _) u
  refine ⟨hb.os.trans h.os, hb.tape.trans h.tape, hb.output.trans h.output, Nat.le_trans h.size hb.size, fun k hk hn => ?_⟩
  rw [Below.heap_setCell w p u k]
  · exact h.block k hk hn
  · rintro rfl
    rcases hp with hp | hp
    · exact hn hp
    · exact Nat.lt_irrefl _ (Nat.lt_of_lt_of_le hk hp)
theorem Chg.cell {P : Nat → Prop} {w w' : World} (h : Chg P w w') {p : Addr} {v : Value} (hp : ¬ P p.block) (hc : w.cell? p = some v) : w'.cell? p = some v := by
  rw [World.cell?_of_block (w := w) (h.block p.block (cell_lt hc) hp)]; exact hc
theorem Chg.frozen {P : Nat → Prop} {w w' : World} (h : Chg P w w') {p : Addr} (hl : p.block < w.heap.size) (hp : ¬ P p.block) : w'.frozen? p = w.frozen? p :=
  World.frozen?_of_block (w := w) (h.block p.block hl hp)
theorem Chg.size' {P : Nat → Prop} {w w' : World} (h : Chg P w w') : w.heap.size ≤ w'.heap.size := h.size

theorem At.chg {k : IntKind} {P : Nat → Prop} {w w' : World} {a : Option Addr} {xs : List Int} (h : At k w a xs) (hx : Chg P w w') (hp : ∀ b o, a = some ⟨b, o, none⟩ → 0 < xs.length → ¬ P b) : At k w' a xs := by
  intro i hi
  obtain ⟨b, o, e, hc⟩ := h i hi
  exact ⟨b, o, e, hx.cell (hp b o e (by omega)) hc⟩


theorem nth_set {xs : List Int} {i j : Nat} {v : Int} (h : i < xs.length) : nth (xs.set i v) j = if j = i then v else nth xs j := by
  unfold nth
  by_cases e : j = i
  · subst e; simp [h]
  · rw [if_neg e]
    simp [List.getD, List.getElem?_set, Ne.symm e]
theorem At.set {k : IntKind} {w : World} {g j : Nat} {xs : List Int} (h : At k w (some ⟨g, 0, none⟩) xs) (hj : j < xs.length) (v : Int) : At k (w.setCell ⟨g, j, none⟩ (.int k v)) (some ⟨g, 0, none⟩) (xs.set j v) := by
  intro i hi
  rw [List.length_set] at hi
  refine ⟨g, 0, rfl, ?_⟩
  rw [Nat.zero_add]
  obtain ⟨b, o, e, hc⟩ := h i hi
  cases e
  rw [Nat.zero_add] at hc
  rw [nth_set hj]
  by_cases e : i = j
  · subst e
    rw [if_pos rfl]; exact World.cell?_setCell_same w _ _ hc
  · rw [if_neg e, World.cell?_setCell_other _ _ _ _ (by intro e'; cases e'; exact e rfl)]
    exact hc
theorem Chg.setCells {P : Nat → Prop} {b : Nat} : ∀ (vs : List Value) (o : Nat) {a w : World}, Chg P a w → P b → Chg P a (w.setCells b o vs)
  | [], _, _, _, h, _ => h
  | v :: vs, o, _, _, h, hp => Chg.setCells vs (o + 1) (h.setCell (p := ⟨b, o, none⟩) (.inl hp) v) hp

end Go.Proofs.YtnbngcagnchkdaaDoor

/-! A function value's call enters the function's body. No program is named here. -/
namespace Go.Proofs.YtnbngcagnchkdaaDoor
open Go.RowKit

/-- A call of function g enters its body. -/
def Enters (P : Program) (g : Nat) : Prop := ∀ args w, (callFunc g args).run P w = .ok (.enter g args) w

theorem Enters.mk {P : Program} {g : Nat} {fn : Func} (h : P.funcs[g]? = some fn) (h1 : (fn.name == "runtime.NumGoroutine") = false) (h2 : fn.body.isNone = false) : Enters P g := by
  intro args w
  have h3 : ¬ fn.name = "runtime.NumGoroutine" := by simpa using h1
  have h4 : ¬ fn.body = none := by intro e; rw [e] at h2; cases h2
  unfold callFunc
  simp [go_sem, h, h3, h4]

end Go.Proofs.YtnbngcagnchkdaaDoor

/-! class.Check, class.Of, class.Round, class.Waste and sort.Search: each function hands back what its plain function computes, and leaves all that there was as it was. The rows must lie in memory as read. -/
namespace Go.Proofs.YtnbngcagnchkdaaDoor
open Go.RowKit

set_option maxHeartbeats 1000000 in
theorem class_Check (a : Option Addr) (cap : Nat) (xs : List Int) (w : World) (h : At .i64 w a xs) (hl : xs.length ≤ maxLen) :
    Calls Tryd.prog 90 #[.slice a xs.length cap] w fun e w' => e = .returned (.int .i64 (ccheck xs)) ∧ w = w' := by
  unfold maxLen at hl
  by_cases h1 : xs.length < 1
  · have e : ccheck xs = 2 := by unfold ccheck; rw [if_pos (.inl h1)]
    have E := Lib.hid e; clear e
    go_enter Tryd.func90, Tryd.ntmps90
    go_wp2
    go_ret
    exact ⟨by rw [E.out]; rfl, rfl⟩
  · obtain ⟨b, o, rfl, hc⟩ := h.pos (by omega)
    by_cases h2 : xs.length > 8
    · have e : ccheck xs = 2 := by unfold ccheck; rw [if_pos (.inr (.inl h2))]
      have E := Lib.hid e; clear e
      go_enter Tryd.func90, Tryd.ntmps90
      go_wp2
      go_ret
      exact ⟨by rw [E.out]; rfl, rfl⟩
    · have hc0 := hc (xs.length - 1) (by omega)
      by_cases h3 : 64 < nth xs (xs.length - 1)
      · have e : ccheck xs = 2 := by unfold ccheck; rw [if_pos (.inr (.inr h3))]
        have E := Lib.hid e; clear e
        go_enter Tryd.func90, Tryd.ntmps90
        go_wp2
        go_ret
        exact ⟨by rw [E.out]; rfl, rfl⟩
      · have e : ccheck xs = ccheckLoop 1 (xs.drop 0) := by unfold ccheck; rw [if_neg (by omega)]; rfl
        have E := Lib.hid e; clear e
        go_enter Tryd.func90, Tryd.ntmps90
        go_wp2
        clear hc0
        go_loop [3, 5, 25] (fun last n i => ∃ (k : Nat) (q : Int), k ≤ xs.length ∧ i = .int .i64 k ∧ last = .int .i64 q ∧ ccheck xs = ccheckLoop q (xs.drop k)) (fun _ _ i => xs.length - (intOf i).toNat)
        case atStart => exact ⟨0, 1, Nat.zero_le _, rfl, rfl, E.out⟩
        case round =>
          obtain ⟨k, q, hk, rfl, rfl, hq⟩ := hrel
          have HQ := Lib.hid hq; clear hq
          by_cases hlt : k < xs.length
          · have hck := hc k hlt
            have hd := drop_nth xs k hlt
            have HD := Lib.hid hd; clear hd
            go_wp2
            · go_ret
              exact ⟨by rw [HQ.out, HD.out, ccheckLoop, if_pos (by omega)]; rfl, rfl⟩
            · go_round
              case rel => exact ⟨k + 1, _, by omega, by go_num, rfl, by rw [HQ.out, HD.out, ccheckLoop, if_neg (by omega)]⟩
              case measure => simp [intOf]; omega
          · go_wp2
            go_ret
            exact ⟨by rw [HQ.out, List.drop_of_length_le (by omega)]; rfl, rfl⟩

/-! ### sort.Search: a function value that answers as 'p' says, rising -/
/-- The function value g answers, of each number below n, what p says, wherever memory has gone on from w. -/
def Answers (P : Program) (g : Nat) (cs : Array Value) (n : Nat) (p : Nat → Bool) (w : World) : Prop :=
  ∀ i w', i < n → Ext w w' → Calls P g (#[.int .i64 i] ++ cs) w' fun e w'' => e = .returned (.bool (p i)) ∧ Ext w' w''

set_option maxHeartbeats 1000000 in
theorem sort_Search (g : Nat) (cs : Array Value) (n r : Nat) (p : Nat → Bool) (w : World) (hn : n ≤ 1073741824)
    (hp : Answers Tryd.prog g cs n p w) (hr : r ≤ n) (h1 : ∀ i, i < r → p i = false) (h2 : ∀ i, r ≤ i → i < n → p i = true) (hk : Enters Tryd.prog g) :
    Calls Tryd.prog 99 #[.int .i64 n, .func (.func g) #[] cs] w fun e w' => e = .returned (.int .i64 r) ∧ Ext w w' := by
  unfold Enters at hk
  have HP := Lib.hid hp; clear hp
  have H1 := Lib.hid h1; clear h1
  have H2 := Lib.hid h2; clear h2
  go_enter Tryd.func99, Tryd.ntmps99
  go_wp2
  go_loopw [5, 6, 7] (fun i j _ wr => ∃ (x y : Nat), i = .int .i64 x ∧ j = .int .i64 y ∧ x ≤ r ∧ r ≤ y ∧ y ≤ n ∧ Ext w wr) (fun i j _ _ => (intOf j).toNat - (intOf i).toNat)
  case atStart => exact ⟨0, n, rfl, rfl, Nat.zero_le _, hr, Nat.le_refl _, Ext.refl _⟩
  case round =>
    obtain ⟨x, y, rfl, rfl, hx, hy, hyn, hw⟩ := hrel
    by_cases hlt : x < y
    · go_wp2_with fail
      refine (HP.out ((x + y) / 2) _ (by omega) hw).mono ?_
      rintro e w1 ⟨rfl, hw1⟩
      have h3 : x ≤ (x + y) / 2 ∧ (x + y) / 2 < y := by omega
      cases hpm : p ((x + y) / 2)
      · have hm : (x + y) / 2 < r := by
          rcases Nat.lt_or_ge ((x + y) / 2) r with h | h
          · exact h
          · have := H2.out _ h (by omega); rw [hpm] at this; cases this
        go_wp2_with fail
        go_roundw
        case rel => exact ⟨(x + y) / 2 + 1, y, by go_num, rfl, by omega, by omega, by omega, hw.trans hw1⟩
        case measure => simp [intOf]; omega
      · have hm : r ≤ (x + y) / 2 := by
          rcases Nat.lt_or_ge ((x + y) / 2) r with h | h
          · have := H1.out _ h; rw [hpm] at this; cases this
          · exact h
        go_wp2_with fail
        go_roundw
        case rel => exact ⟨x, (x + y) / 2, rfl, by go_num, by omega, by omega, by omega, hw.trans hw1⟩
        case measure => simp [intOf]; omega
    · go_wp2_with fail
      go_ret
      exact ⟨ret_int (by omega), hw⟩

/-! ### class.Of -/

theorem class_Check' {a : Option Addr} {cap : Nat} (xs : List Int) (n : Nat) (p : Int) {w : World} (hn : xs.length = n) (hp : ccheck xs = p) (h : At .i64 w a xs) (hl : xs.length ≤ maxLen) :
    Calls Tryd.prog 90 #[.slice a n cap] w fun e w' => e = .returned (.int .i64 p) ∧ Ext w w' := by
  have := class_Check a cap xs w h hl; rw [hp, hn] at this; exact this.mono fun _ _ ⟨he, hw⟩ => ⟨he, hw ▸ Ext.refl _⟩

end Go.Proofs.YtnbngcagnchkdaaDoor

/-! conf.Check, Slots, Pages, Region, Base, Total: each function hands back what its plain function computes, and leaves all that there was as it was. The configuration must lie in memory as read. -/
namespace Go.Proofs.YtnbngcagnchkdaaDoor
open Go.RowKit

/-- Tenants in memory: four numbers each, one behind the other. -/
def TenAt (w : World) (a : Option Addr) (ts : List Ten) : Prop :=
  ∀ i, i < ts.length → ∃ b o, a = some ⟨b, o, none⟩ ∧ w.cell? ⟨b, o + i * 4, none⟩ = some (.int .i64 (tnth ts i).q) ∧ w.cell? ⟨b, o + i * 4 + 1, none⟩ = some (.int .i64 (tnth ts i).tr) ∧
    w.cell? ⟨b, o + i * 4 + 2, none⟩ = some (.int .i64 (tnth ts i).cp) ∧ w.cell? ⟨b, o + i * 4 + 3, none⟩ = some (.int .i64 (tnth ts i).sst)

theorem TenAt.ext {w w' : World} {a : Option Addr} {ts : List Ten} (h : TenAt w a ts) (hx : Ext w w') : TenAt w' a ts := by
  intro i hi
  obtain ⟨b, o, e, h0, h1, h2, h3⟩ := h i hi
  exact ⟨b, o, e, hx.cell h0, hx.cell h1, hx.cell h2, hx.cell h3⟩

theorem TenAt.pos {w : World} {a : Option Addr} {ts : List Ten} (h : TenAt w a ts) (h0 : 0 < ts.length) :
    ∃ b o, a = some ⟨b, o, none⟩ ∧ ∀ i, i < ts.length → w.cell? ⟨b, o + i * 4, none⟩ = some (.int .i64 (tnth ts i).q) ∧ w.cell? ⟨b, o + i * 4 + 1, none⟩ = some (.int .i64 (tnth ts i).tr) ∧
    w.cell? ⟨b, o + i * 4 + 2, none⟩ = some (.int .i64 (tnth ts i).cp) ∧ w.cell? ⟨b, o + i * 4 + 3, none⟩ = some (.int .i64 (tnth ts i).sst) := by
  obtain ⟨b, o, rfl, _⟩ := h 0 h0
  refine ⟨b, o, rfl, fun i hi => ?_⟩
  obtain ⟨b', o', e, hc⟩ := h i hi
  cases e; exact hc

/-- A configuration in memory. -/
structure CfgAt (w : World) (ca ta : Option Addr) (cc tc : Nat) (c : Conf) : Prop where
  cl : At .i64 w ca c.cl
  ts : TenAt w ta c.ts
  cm : c.cl.length ≤ maxLen
  tm : c.ts.length ≤ maxLen
  ccap : c.cl.length ≤ cc
  tcap : c.ts.length ≤ tc
  ccm : cc ≤ maxLen
  tcm : tc ≤ maxLen
theorem CfgAt.ext {w w' : World} {ca ta : Option Addr} {cc tc : Nat} {c : Conf} (h : CfgAt w ca ta cc tc c) (hx : Ext w w') : CfgAt w' ca ta cc tc c := ⟨h.cl.ext hx, h.ts.ext hx, h.cm, h.tm, h.ccap, h.tcap, h.ccm, h.tcm⟩

/-- The six cells of a box, still there. -/
theorem box6 {w w1 : World} {v0 v1 v2 v3 v4 v5 : Value} {t : TypeId} (hx : Ext (w.alloc (.cells #[v0, v1, v2, v3, v4, v5] t)) w1) :
    w1.cell? ⟨w.heap.size, 0, none⟩ = some v0 ∧ w1.cell? ⟨w.heap.size, 1, none⟩ = some v1 ∧ w1.cell? ⟨w.heap.size, 2, none⟩ = some v2 ∧ w1.cell? ⟨w.heap.size, 3, none⟩ = some v3 ∧
    w1.cell? ⟨w.heap.size, 4, none⟩ = some v4 ∧ w1.cell? ⟨w.heap.size, 5, none⟩ = some v5 :=
  ⟨hx.cell (cell_newN w _ t 0), hx.cell (cell_newN w _ t 1), hx.cell (cell_newN w _ t 2), hx.cell (cell_newN w _ t 3), hx.cell (cell_newN w _ t 4), hx.cell (cell_newN w _ t 5)⟩

/-! ### conf.within -/
set_option maxHeartbeats 1000000 in
theorem conf_within (a : Option Addr) (cap : Nat) (l : List Int) (w : World) (h : At .i64 w a l) (hl : l.length ≤ 1000) :
    Calls Tryd.prog 77 #[.slice a l.length cap] w fun e w' => e = .returned (.bool (wthn l)) ∧ Ext w w' := by
  by_cases h0 : l.length < 3
  · have E := Lib.hid (wthn_short h0)
    clear h
    go_enter Tryd.func77, Tryd.ntmps77
    go_wp2_with fail
    go_loopw [3] (fun i wr => i = .int .i64 0 ∧ Ext w wr) (fun _ _ => 0)
    case atStart => exact ⟨rfl, Ext.refl _⟩
    case round =>
      obtain ⟨rfl, hw⟩ := hrel
      go_wp2_with fail
      go_ret
      exact ⟨by rw [E.out]; rfl, hw⟩
  · obtain ⟨b, o, rfl, hc⟩ := h.pos (by omega)
    clear h
    have HC := Lib.hid hc; clear hc
    go_enter Tryd.func77, Tryd.ntmps77
    go_wp2_with fail
    go_loopw [3] (fun i wr => ∃ k : Nat, k ≤ l.length ∧ i = .int .i64 k ∧ Hid (wthn l = wthn (l.drop k)) ∧ Ext w wr) (fun i _ => l.length - (intOf i).toNat)
    case atStart => exact ⟨0, Nat.zero_le _, rfl, rfl, Ext.refl _⟩
    case round =>
      obtain ⟨k, hk, rfl, HE, hw⟩ := hrel
      by_cases hlt : k + 2 < l.length
      · have hc0 := hw.cell (HC.out k (by omega))
        have hc1 := hw.cell (HC.out (k + 1) (by omega))
        have hc2 := hw.cell (HC.out (k + 2) (by omega))
        have hd : wthn l = if nth l (k + 1) < nth l k ∨ nth l (k + 2) < nth l (k + 1) then false else wthn (l.drop (k + 3)) := by
          rw [HE.out, drop_nth l k (by omega), drop_nth l (k + 1) (by omega), drop_nth l (k + 2) (by omega), wthn_step]
        have HD := Lib.hid hd; clear hd
        by_cases hb1 : nth l (k + 1) < nth l k
        · go_wp2_with fail
          go_quiet (fail)
          go_wp2_with fail
          go_ret
          exact ⟨by rw [HD.out, if_pos (.inl hb1)]; rfl, hw.drewN _⟩
        · have hd1 : decide (nth l (k + 1) < nth l k) = false := by simpa using hb1
          by_cases hb2 : nth l (k + 2) < nth l (k + 1)
          · go_wp2_with fail
            go_quiet (fail)
            go_wp2_with fail
            go_ret
            exact ⟨by rw [HD.out, if_pos (.inr hb2)]; rfl, hw.drewN _⟩
          · have hd2 : decide (nth l (k + 2) < nth l (k + 1)) = false := by simpa using hb2
            go_wp2_with fail
            go_quiet (fail)
            go_wp2_with fail
            go_roundw
            case rel => exact ⟨k + 3, by omega, by go_num, by unfold Hid; rw [HD.out, if_neg (by omega)], hw.drewN _⟩
            case measure => simp [intOf]; omega
      · have E := Lib.hid (HE.out.trans (wthn_short (by rw [List.length_drop]; omega)))
        go_wp2_with fail
        go_ret
        exact ⟨by rw [E.out]; rfl, hw⟩

/-! ### slices.Max of rising numbers -/
set_option maxHeartbeats 1000000 in
theorem slices_Max (a : Option Addr) (cap : Nat) (l : List Int) (w : World) (h : At .i64 w a l) (hl : l.length ≤ 1000) (h0 : 1 ≤ l.length) (hinc : ∀ i j, i < j → j < l.length → nth l i < nth l j) :
    Calls Tryd.prog 91 #[.slice a l.length cap] w fun e w' => e = .returned (.int .i64 (nth l (l.length - 1))) ∧ Ext w w' := by
  obtain ⟨b, o, rfl, hc⟩ := h.pos (by omega)
  clear h
  have hc0 := hc 0 (by omega)
  rw [Nat.add_zero] at hc0
  have HC := Lib.hid hc; clear hc
  have HI := Lib.hid hinc; clear hinc
  go_enter Tryd.func91, Tryd.ntmps91
  go_wp2_with fail
  clear hc0
  go_loopw [3, 4] (fun m i wr => ∃ k : Nat, 1 ≤ k ∧ k ≤ l.length ∧ i = .int .i64 k ∧ m = .int .i64 (nth l (k - 1)) ∧ Ext w wr) (fun _ i _ => l.length - (intOf i).toNat)
  case atStart => exact ⟨1, by omega, by omega, rfl, rfl, Ext.refl _⟩
  case round =>
    obtain ⟨k, hk1, hk, rfl, rfl, hw⟩ := hrel
    by_cases hlt : k < l.length
    · have hck := hw.cell (HC.out k hlt)
      have hin := HI.out (k - 1) k (by omega) hlt
      go_wp2_with fail
      go_roundw
      case rel => exact ⟨k + 1, by omega, by omega, by go_num, by simp, hw⟩
      case measure => simp [intOf]; omega
    · obtain rfl : k = l.length := by omega
      go_wp2_with fail
      go_ret
      exact ⟨rfl, hw⟩

/-! ### conf.sum, at any element type: a function value that answers numbers -/
def AnswersI (P : Program) (g : Nat) (cs : Array Value) (n : Nat) (f : Nat → Int) (w : World) : Prop :=
  ∀ i w', i < n → Ext w w' → Calls P g (#[.int .i64 i] ++ cs) w' fun e w'' => e = .returned (.int .i64 (f i)) ∧ Ext w' w''

set_option maxHeartbeats 1000000 in
theorem conf_sum_int (a : Option Addr) (n cap g : Nat) (cs : Array Value) (f : Nat → Int) (s : Int) (w : World) (hn : n ≤ 1000) (hp : AnswersI Tryd.prog g cs n f w) (hb : ∀ i, i < n → 0 ≤ f i ∧ f i ≤ 1048576) (hs : sumTo f n = s) (hk : Enters Tryd.prog g) :
    Calls Tryd.prog 78 #[.slice a n cap, .func (.func g) #[] cs] w fun e w' => e = .returned (.int .i64 s) ∧ Ext w w' := by
  unfold Enters at hk
  have HP := Lib.hid hp; have HB := Lib.hid hb; have HS := Lib.hid hs
  clear hp hb hs
  go_enter Tryd.func78, Tryd.ntmps78
  go_wp2_with fail
  go_loopw [5, 9] (fun u i wr => ∃ k : Nat, k ≤ n ∧ i = .int .i64 k ∧ u = .int .i64 (sumTo f k) ∧ Ext w wr) (fun _ i _ => n - (intOf i).toNat)
  case atStart => exact ⟨0, Nat.zero_le _, rfl, rfl, Ext.refl _⟩
  case round =>
    obtain ⟨k, hk1, rfl, rfl, hw⟩ := hrel
    by_cases hlt : k < n
    · have hv := HB.out k hlt
      have hu := sumTo_bound f 1048576 k (fun i hi => HB.out i (by omega))
      have hu2 : sumTo f (k + 1) = sumTo f k + f k := rfl
      have HU := Lib.hid hu2; clear hu2
      generalize sumTo f k = u at *
      generalize hv' : f k = v at *
      go_wp2_with fail
      refine (HP.out k _ hlt hw).mono ?_
      rw [hv']
      clear hv'
      rintro e w1 ⟨rfl, hw1⟩
      go_wp2_with fail
      go_roundw
      case rel => exact ⟨k + 1, by omega, by go_num, by rw [HU.out], hw.trans hw1⟩
      case measure => simp [intOf]; omega
    · obtain rfl : k = n := by omega
      go_wp2_with fail
      go_ret
      exact ⟨by rw [HS.out]; rfl, hw⟩

set_option maxHeartbeats 1000000 in
theorem conf_sum_ten (a : Option Addr) (n cap g : Nat) (cs : Array Value) (f : Nat → Int) (s : Int) (w : World) (hn : n ≤ 1000) (hp : AnswersI Tryd.prog g cs n f w) (hb : ∀ i, i < n → 0 ≤ f i ∧ f i ≤ 1048576) (hs : sumTo f n = s) (hk : Enters Tryd.prog g) :
    Calls Tryd.prog 74 #[.slice a n cap, .func (.func g) #[] cs] w fun e w' => e = .returned (.int .i64 s) ∧ Ext w w' := by
  unfold Enters at hk
  have HP := Lib.hid hp; have HB := Lib.hid hb; have HS := Lib.hid hs
  clear hp hb hs
  go_enter Tryd.func74, Tryd.ntmps74
  go_wp2_with fail
  go_loopw [5, 9] (fun u i wr => ∃ k : Nat, k ≤ n ∧ i = .int .i64 k ∧ u = .int .i64 (sumTo f k) ∧ Ext w wr) (fun _ i _ => n - (intOf i).toNat)
  case atStart => exact ⟨0, Nat.zero_le _, rfl, rfl, Ext.refl _⟩
  case round =>
    obtain ⟨k, hk1, rfl, rfl, hw⟩ := hrel
    by_cases hlt : k < n
    · have hv := HB.out k hlt
      have hu := sumTo_bound f 1048576 k (fun i hi => HB.out i (by omega))
      have hu2 : sumTo f (k + 1) = sumTo f k + f k := rfl
      have HU := Lib.hid hu2; clear hu2
      generalize sumTo f k = u at *
      generalize hv' : f k = v at *
      go_wp2_with fail
      refine (HP.out k _ hlt hw).mono ?_
      rw [hv']
      clear hv'
      rintro e w1 ⟨rfl, hw1⟩
      go_wp2_with fail
      go_roundw
      case rel => exact ⟨k + 1, by omega, by go_num, by rw [HU.out], hw.trans hw1⟩
      case measure => simp [intOf]; omega
    · obtain rfl : k = n := by omega
      go_wp2_with fail
      go_ret
      exact ⟨by rw [HS.out]; rfl, hw⟩

/-! ### conf.Check -/
theorem wthn_head (c : Conf) : wthn [great c, c.page, 64, 1, (c.ts.length : Int), 8, 0, c.wk, 8, 1, c.gr, 64, 1, c.gens, 2147483648] = decide (headOk c) := by
  rw [Bool.eq_iff_iff, decide_eq_true_iff]
  unfold headOk
  simp only [wthn]
  (repeat' split) <;> simp <;> omega
theorem wthn_ten (g : Int) (t : Ten) : wthn [g, t.q, 4096, 1, t.tr, 1048576, 1, t.cp, 1024, 0, t.sst, 1024] = decide (tenOk g t) := by
  rw [Bool.eq_iff_iff, decide_eq_true_iff]
  unfold tenOk
  simp only [wthn]
  (repeat' split) <;> simp <;> omega
theorem wthn_there (t k n m : Int) : wthn [0, t, n, 0, k, m] = decide (0 ≤ t ∧ t ≤ n ∧ 0 ≤ k ∧ k ≤ m) := by
  rw [Bool.eq_iff_iff, decide_eq_true_iff]
  simp only [wthn]
  (repeat' split) <;> simp <;> omega

theorem conf_within' {a : Option Addr} {cap : Nat} (l : List Int) (n : Nat) (b : Bool) {w : World} (hn : l.length = n) (hb : wthn l = b) (h : At .i64 w a l) (hl : l.length ≤ 1000) :
    Calls Tryd.prog 77 #[.slice a n cap] w fun e w' => e = .returned (.bool b) ∧ Ext w w' := by
  have := conf_within a cap l w h hl; rw [hb, hn] at this; exact this
theorem slices_Max' {a : Option Addr} {cap : Nat} (l : List Int) (m : Int) {w : World} (hm : nth l (l.length - 1) = m) (h : At .i64 w a l) (hc : COk l) :
    Calls Tryd.prog 91 #[.slice a l.length cap] w fun e w' => e = .returned (.int .i64 m) ∧ Ext w w' := by
  have := slices_Max a cap l w h (by have := hc.most; omega) hc.pos hc.inc; rw [hm] at this; exact this
theorem kcheck_head {c : Conf} (h0 : ccheck c.cl = 0) (h1 : ¬ headOk c) : kcheck c = 2 := by unfold kcheck; rw [if_neg (by omega), if_neg h1]
theorem kcheck_tens {c : Conf} (h0 : ccheck c.cl = 0) (h1 : headOk c) : kcheck c = tenCheck (great c) c.ts := by unfold kcheck; rw [if_neg (by omega), if_pos h1]
theorem kcheck_no {c : Conf} (h0 : ccheck c.cl ≠ 0) : kcheck c = 2 := by unfold kcheck; rw [if_pos h0]

set_option maxHeartbeats 2000000 in
theorem conf_Check (ca ta : Option Addr) (cc tc : Nat) (c : Conf) (w : World) (h : CfgAt w ca ta cc tc c) :
    Calls Tryd.prog 73 #[.agg #[.slice ca c.cl.length cc, .int .i64 c.page, .slice ta c.ts.length tc, .int .i64 c.wk, .int .i64 c.gr, .int .i64 c.gens]] w fun e w' => e = .returned (.int .i64 (kcheck c)) ∧ Ext w w' := by
  have h1 := Ext.refl (w.alloc (.cells #[.slice ca c.cl.length cc, .int .i64 c.page, .slice ta c.ts.length tc, .int .i64 c.wk, .int .i64 c.gr, .int .i64 c.gens] 25))
  have hx := (Ext.refl w).alloc (.cells #[.slice ca c.cl.length cc, .int .i64 c.page, .slice ta c.ts.length tc, .int .i64 c.wk, .int .i64 c.gr, .int .i64 c.gens] 25)
  have tm := h.tm
  unfold maxLen at tm
  have H := Lib.hid h; clear h
  by_cases h0 : ccheck c.cl = 0
  · have H0 := Lib.hid h0
    have HO := Lib.hid (ccheck_ok h0)
    clear h0
    go_enter Tryd.func73, Tryd.ntmps73
    go_wp2_with fail
    refine (class_Check' c.cl _ 0 rfl H0.out (H.out.cl.ext (hx.trans h1)) H.out.cm).mono ?_
    rintro e w1 ⟨rfl, h2⟩
    replace h1 := h1.trans h2
    clear h2
    obtain ⟨b0, b1, b2, b3, b4, b5⟩ := box6 h1
    go_wp2_with fail
    all_goals (try clear b0 b1 b2 b3 b4 b5)
    refine (slices_Max' c.cl (great c) rfl (H.out.cl.ext (hx.trans h1)) HO.out).mono ?_
    rintro e w2 ⟨rfl, h2⟩
    replace h1 := h1.trans h2
    clear h2
    obtain ⟨b0, b1, b2, b3, b4, b5⟩ := box6 h1
    go_wp2_with fail
    all_goals (try clear b0 b1 b2 b3 b4 b5)
    by_cases hh : headOk c
    · have E := Lib.hid (kcheck_tens H0.out hh)
      have t1 : 1 ≤ c.ts.length := hh.2.2.1
      have t8 : c.ts.length ≤ 8 := hh.2.2.2.1
      refine (conf_within' [great c, c.page, 64, 1, (c.ts.length : Int), 8, 0, c.wk, 8, 1, c.gr, 64, 1, c.gens, 2147483648] 15 true rfl (by rw [wthn_head]; simpa using hh) (At.new .i64 _ _ 3) (by simp)).mono ?_
      clear hh
      rintro e w3 ⟨rfl, h2⟩
      replace h1 := (h1.alloc _).trans h2
      clear h2
      obtain ⟨b0, b1, b2, b3, b4, b5⟩ := box6 h1
      go_wp2_with fail
      clear b0 b1 b2 b3 b4 b5
      obtain ⟨tb, to_, rfl, ht⟩ := H.out.ts.pos t1
      have HT := Lib.hid ht
      clear ht
      go_loopw [34] (fun i wr => ∃ k : Nat, k ≤ c.ts.length ∧ i = .int .i64 k ∧ Hid (tenCheck (great c) c.ts = tenCheck (great c) (c.ts.drop k)) ∧ Ext (w.alloc (.cells #[.slice ca c.cl.length cc, .int .i64 c.page, .slice (some ⟨tb, to_, none⟩) c.ts.length tc, .int .i64 c.wk, .int .i64 c.gr, .int .i64 c.gens] 25)) wr) (fun i _ => c.ts.length - (intOf i).toNat)
      case atStart => exact ⟨0, Nat.zero_le _, rfl, rfl, h1⟩
      case round =>
        clear h1
        obtain ⟨k, hk, rfl, HE, h1⟩ := hrel
        by_cases hlt : k < c.ts.length
        · obtain ⟨q0, q1, q2, q3⟩ := HT.out k hlt
          have hd : tenCheck (great c) c.ts = if tenOk (great c) (tnth c.ts k) then tenCheck (great c) (c.ts.drop (k + 1)) else 2 := by
            rw [HE.out, drop_tnth c.ts k hlt]; rfl
          have HD := Lib.hid hd
          clear hd
          have r0 := (hx.trans h1).cell q0
          have r1 := (hx.trans h1).cell q1
          have r2 := (hx.trans h1).cell q2
          have r3 := (hx.trans h1).cell q3
          clear q0 q1 q2 q3
          generalize tnth c.ts k = t at *
          go_wp2_with fail
          by_cases htn : tenOk (great c) t
          · refine (conf_within' [great c, t.q, 4096, 1, t.tr, 1048576, 1, t.cp, 1024, 0, t.sst, 1024] 12 true rfl (by rw [wthn_ten]; simpa using htn) (At.newb .i64 _ _ 3 _ (by simp)) (by simp)).mono ?_
            rw [if_pos htn] at HD
            clear htn
            rintro e w4 ⟨rfl, h2⟩
            replace h1 := ((h1.alloc _).alloc _).trans h2
            clear h2 r0 r1 r2 r3
            go_wp2_with fail
            go_roundw
            case rel => exact ⟨k + 1, by omega, by go_num, HD.out, h1⟩
            case measure => simp [intOf]; omega
          · refine (conf_within' [great c, t.q, 4096, 1, t.tr, 1048576, 1, t.cp, 1024, 0, t.sst, 1024] 12 false rfl (by rw [wthn_ten]; simpa using htn) (At.newb .i64 _ _ 3 _ (by simp)) (by simp)).mono ?_
            rw [if_neg htn] at HD
            clear htn
            rintro e w4 ⟨rfl, h2⟩
            replace h1 := ((h1.alloc _).alloc _).trans h2
            clear h2 r0 r1 r2 r3
            go_wp2_with fail
            go_ret
            exact ⟨by rw [E.out, HD.out]; rfl, hx.trans h1⟩
        · have E2 := Lib.hid (HE.out.trans (by rw [List.drop_of_length_le (by omega)]; rfl : tenCheck (great c) (c.ts.drop k) = 0))
          go_wp2_with fail
          go_ret
          exact ⟨by rw [E.out, E2.out]; rfl, hx.trans h1⟩
    · have E := Lib.hid (kcheck_head H0.out hh)
      refine (conf_within' [great c, c.page, 64, 1, (c.ts.length : Int), 8, 0, c.wk, 8, 1, c.gr, 64, 1, c.gens, 2147483648] 15 false rfl (by rw [wthn_head]; simpa using hh) (At.new .i64 _ _ 3) (by simp)).mono ?_
      clear hh
      rintro e w3 ⟨rfl, h2⟩
      replace h1 := (h1.alloc _).trans h2
      clear h2
      go_wp2_with fail
      go_ret
      exact ⟨by rw [E.out]; rfl, hx.trans h1⟩
  · have h2 : ccheck c.cl = 2 := (ccheck_01 _).resolve_left h0
    have E := Lib.hid (kcheck_no h0)
    have H2 := Lib.hid h2
    clear h0 h2
    go_enter Tryd.func73, Tryd.ntmps73
    go_wp2_with fail
    refine (class_Check' c.cl _ 2 rfl H2.out (H.out.cl.ext (hx.trans h1)) H.out.cm).mono ?_
    rintro e w3 ⟨rfl, h2⟩
    replace h1 := h1.trans h2
    clear h2
    obtain ⟨b0, b1, b2, b3, b4, b5⟩ := box6 h1
    go_wp2_with fail
    all_goals (try clear b0 b1 b2 b3 b4 b5)
    go_ret
    exact ⟨by rw [E.out]; rfl, hx.trans h1⟩

theorem conf_Check' {ca ta : Option Addr} {cc tc : Nat} (c : Conf) (p : Int) {w : World} (hp : kcheck c = p) (h : CfgAt w ca ta cc tc c) :
    Calls Tryd.prog 73 #[.agg #[.slice ca c.cl.length cc, .int .i64 c.page, .slice ta c.ts.length tc, .int .i64 c.wk, .int .i64 c.gr, .int .i64 c.gens]] w fun e w' => e = .returned (.int .i64 p) ∧ Ext w w' := hp ▸ conf_Check ca ta cc tc c w h

/-! ### conf.there, Slots, Pages -/
set_option maxHeartbeats 2000000 in
theorem conf_there {ca ta : Option Addr} {cc tc : Nat} (c : Conf) (t k : Int) (b : Bool) {w : World} (hb : decide (there c t k) = b) (h : CfgAt w ca ta cc tc c) :
    Calls Tryd.prog 49 #[.agg #[.slice ca c.cl.length cc, .int .i64 c.page, .slice ta c.ts.length tc, .int .i64 c.wk, .int .i64 c.gr, .int .i64 c.gens], .int .i64 t, .int .i64 k] w fun e w' => e = .returned (.bool b) ∧ Ext w w' := by
  have h1 := Ext.refl (w.alloc (.cells #[.slice ca c.cl.length cc, .int .i64 c.page, .slice ta c.ts.length tc, .int .i64 c.wk, .int .i64 c.gr, .int .i64 c.gens] 25))
  have hx := (Ext.refl w).alloc (.cells #[.slice ca c.cl.length cc, .int .i64 c.page, .slice ta c.ts.length tc, .int .i64 c.wk, .int .i64 c.gr, .int .i64 c.gens] 25)
  have H := Lib.hid h; clear h
  by_cases h0 : kcheck c = 0
  · have ho := kcheck_ok h0
    have c1 := ho.cl.pos
    have c8 := ho.cl.most
    have t1 := ho.head.2.2.1
    have t8 := ho.head.2.2.2.1
    have hw : wthn [0, t, (c.ts.length : Int) - 1, 0, k, (c.cl.length : Int) - 1] = b := by
      rw [wthn_there, ← hb]; unfold there; simp [h0]
    have HW := Lib.hid hw
    have H0 := Lib.hid h0
    clear h0 ho hw hb
    go_enter Tryd.func49, Tryd.ntmps49
    go_wp2_with fail
    refine (conf_Check' c 0 H0.out (H.out.ext (hx.trans h1))).mono ?_
    rintro e w1 ⟨rfl, h2⟩
    replace h1 := h1.trans h2
    clear h2
    obtain ⟨b0, b1, b2, b3, b4, b5⟩ := box6 h1
    go_wp2_with fail
    all_goals (try clear b0 b1 b2 b3 b4 b5)
    refine (conf_within' [0, t, (c.ts.length : Int) - 1, 0, k, (c.cl.length : Int) - 1] 6 b rfl HW.out (At.new .i64 _ _ 3) (by simp)).mono ?_
    rintro e w3 ⟨rfl, h2⟩
    replace h1 := (h1.alloc _).trans h2
    clear h2
    go_wp2_with fail
    go_ret
    exact ⟨rfl, hx.trans h1⟩
  · have h2 : kcheck c = 2 := (kcheck_01 _).resolve_left h0
    obtain rfl : b = false := by rw [← hb]; simp [there, h0]
    have H2 := Lib.hid h2
    clear h0 h2 hb
    go_enter Tryd.func49, Tryd.ntmps49
    go_wp2_with fail
    refine (conf_Check' c 2 H2.out (H.out.ext (hx.trans h1))).mono ?_
    rintro e w2 ⟨rfl, h2⟩
    replace h1 := h1.trans h2
    clear h2
    obtain ⟨b0, b1, b2, b3, b4, b5⟩ := box6 h1
    go_wp2_with fail
    all_goals (try clear b0 b1 b2 b3 b4 b5)
    go_ret
    exact ⟨rfl, hx.trans h1⟩

set_option maxHeartbeats 2000000 in
theorem conf_Slots {ca ta : Option Addr} {cc tc : Nat} (c : Conf) (t k p q : Int) {w : World} (hpq : kslots c t k = (p, q)) (h : CfgAt w ca ta cc tc c) :
    Calls Tryd.prog 26 #[.agg #[.slice ca c.cl.length cc, .int .i64 c.page, .slice ta c.ts.length tc, .int .i64 c.wk, .int .i64 c.gr, .int .i64 c.gens], .int .i64 t, .int .i64 k] w fun e w' => e = .returned (.tuple #[.int .i64 p, .int .i64 q]) ∧ Ext w w' := by
  have h1 := Ext.refl (w.alloc (.cells #[.slice ca c.cl.length cc, .int .i64 c.page, .slice ta c.ts.length tc, .int .i64 c.wk, .int .i64 c.gr, .int .i64 c.gens] 25))
  have hx := (Ext.refl w).alloc (.cells #[.slice ca c.cl.length cc, .int .i64 c.page, .slice ta c.ts.length tc, .int .i64 c.wk, .int .i64 c.gr, .int .i64 c.gens] 25)
  have H := Lib.hid h; clear h
  by_cases hth : there c t k
  · obtain ⟨i, j, rfl, rfl, hi, hj, ho⟩ := there_nat hth
    rw [kslots_yes hth] at hpq
    obtain ⟨rfl, rfl⟩ : slotsOf c i j = p ∧ 0 = q := by simpa using hpq
    clear hpq
    have c8 := ho.cl.most
    have t8 := ho.head.2.2.2.1
    have bd := ho.bounds hi hj
    have u1 := bd.c2; have u2 := bd.cq; have u3 := bd.q4096; have u4 := bd.c64
    have HS := Lib.hid (show slotsOf c i j = (tnth c.ts i).q / nth c.cl j from rfl)
    have HTH := Lib.hid (show decide (there c i j) = true by simpa using hth)
    obtain ⟨cb, co, rfl, hc⟩ := H.out.cl.pos (by omega)
    obtain ⟨tb, to_, rfl, ht⟩ := H.out.ts.pos (by omega)
    have hcj := hc j hj
    have hti := (ht i hi).1
    clear hc ht bd ho hth
    generalize slotsOf c i j = s at *
    generalize nth c.cl j = x at *
    generalize (tnth c.ts i).q = y at *
    go_enter Tryd.func26, Tryd.ntmps26
    go_wp2_with fail
    refine (conf_there c _ _ true HTH.out (H.out.ext (hx.trans h1))).mono ?_
    rintro e w1 ⟨rfl, h2⟩
    replace h1 := h1.trans h2
    clear h2
    obtain ⟨b0, b1, b2, b3, b4, b5⟩ := box6 h1
    go_wp2_with fail
    all_goals (try clear b0 b1 b2 b3 b4 b5)
    obtain ⟨b0, b1, b2, b3, b4, b5⟩ := box6 h1
    have z1 := (hx.trans h1).cell hcj
    have z2 := (hx.trans h1).cell hti
    clear hcj hti
    go_quiet (fail)
    go_wp2_with fail
    go_ret2
    exact ⟨by rw [HS.out]; rfl, (hx.trans h1).drewN _⟩
  · rw [kslots_no hth] at hpq
    obtain ⟨rfl, rfl⟩ : 0 = p ∧ 2 = q := by simpa using hpq
    have HTH := Lib.hid (show decide (there c t k) = false by simpa using hth)
    clear hpq hth
    go_enter Tryd.func26, Tryd.ntmps26
    go_wp2_with fail
    refine (conf_there c _ _ false HTH.out (H.out.ext (hx.trans h1))).mono ?_
    rintro e w2 ⟨rfl, h2⟩
    replace h1 := h1.trans h2
    clear h2
    obtain ⟨b0, b1, b2, b3, b4, b5⟩ := box6 h1
    go_wp2_with fail
    all_goals (try clear b0 b1 b2 b3 b4 b5)
    go_ret2
    exact ⟨rfl, hx.trans h1⟩

theorem pages_bd {c : Conf} {i j : Nat} (bd : Bounds c i j) : 0 ≤ slotsOf c i j + perOf c j - 1 := by have := bd.s1; have := bd.per1; omega

set_option maxHeartbeats 2000000 in
theorem conf_Pages {ca ta : Option Addr} {cc tc : Nat} (c : Conf) (t k p q : Int) {w : World} (hpq : kpages c t k = (p, q)) (h : CfgAt w ca ta cc tc c) :
    Calls Tryd.prog 27 #[.agg #[.slice ca c.cl.length cc, .int .i64 c.page, .slice ta c.ts.length tc, .int .i64 c.wk, .int .i64 c.gr, .int .i64 c.gens], .int .i64 t, .int .i64 k] w fun e w' => e = .returned (.tuple #[.int .i64 p, .int .i64 q]) ∧ Ext w w' := by
  have h1 := Ext.refl (w.alloc (.cells #[.slice ca c.cl.length cc, .int .i64 c.page, .slice ta c.ts.length tc, .int .i64 c.wk, .int .i64 c.gr, .int .i64 c.gens] 25))
  have hx := (Ext.refl w).alloc (.cells #[.slice ca c.cl.length cc, .int .i64 c.page, .slice ta c.ts.length tc, .int .i64 c.wk, .int .i64 c.gr, .int .i64 c.gens] 25)
  have H := Lib.hid h; clear h
  by_cases hth : there c t k
  · obtain ⟨i, j, rfl, rfl, hi, hj, ho⟩ := there_nat hth
    have HSL := Lib.hid (kslots_yes hth)
    rw [kpages_yes hth] at hpq
    obtain ⟨rfl, rfl⟩ : pagesOf c i j = p ∧ 0 = q := by simpa using hpq
    clear hpq
    have c8 := ho.cl.most
    have bd := ho.bounds hi hj
    have u1 := bd.c2; have u2 := bd.cpage; have u3 := bd.p64; have u4 := bd.c64; have u5 := bd.s1; have u6 := bd.s2048; have u7 := bd.per1; have u8 := bd.per32
    have HS := Lib.hid (show pagesOf c i j = (slotsOf c i j + perOf c j - 1) / perOf c j from rfl)
    have HP := Lib.hid (show c.page / nth c.cl j = perOf c j from rfl)
    obtain ⟨cb, co, rfl, hc⟩ := H.out.cl.pos (by omega)
    have hcj := hc j hj
    clear hc bd ho hth
    generalize pagesOf c i j = pg at *
    generalize slotsOf c i j = s at *
    generalize perOf c j = pe at *
    generalize nth c.cl j = x at *
    go_enter Tryd.func27, Tryd.ntmps27
    go_wp2_with fail
    refine (conf_Slots c _ _ _ _ HSL.out (H.out.ext (hx.trans h1))).mono ?_
    rintro e w1 ⟨rfl, h2⟩
    replace h1 := h1.trans h2
    clear h2
    obtain ⟨b0, b1, b2, b3, b4, b5⟩ := box6 h1
    go_wp2_with fail
    all_goals (try clear b0 b1 b2 b3 b4 b5)
    obtain ⟨b0, b1, b2, b3, b4, b5⟩ := box6 h1
    have z1 := (hx.trans h1).cell hcj
    clear hcj
    go_quiet (fail)
    rw [HP.out]
    go_wp2_with fail
    go_ret2
    exact ⟨by rw [HS.out]; rfl, (hx.trans h1).drewN _⟩
  · have HSL := Lib.hid (kslots_no hth)
    rw [kpages_no hth] at hpq
    obtain ⟨rfl, rfl⟩ : 0 = p ∧ 2 = q := by simpa using hpq
    clear hpq hth
    go_enter Tryd.func27, Tryd.ntmps27
    go_wp2_with fail
    refine (conf_Slots c _ _ _ _ HSL.out (H.out.ext (hx.trans h1))).mono ?_
    rintro e w2 ⟨rfl, h2⟩
    replace h1 := h1.trans h2
    clear h2
    obtain ⟨b0, b1, b2, b3, b4, b5⟩ := box6 h1
    go_wp2_with fail
    all_goals (try clear b0 b1 b2 b3 b4 b5)
    go_ret2
    exact ⟨rfl, hx.trans h1⟩

/-! ### conf.words, Region, Base, Total -/
theorem enters_words1 : Enters Tryd.prog 79 := Enters.mk Tryd.func79 (by kernel_rfl) rfl
theorem enters_Base1 : Enters Tryd.prog 76 := Enters.mk Tryd.func76 (by kernel_rfl) rfl
theorem enters_Total1 : Enters Tryd.prog 75 := Enters.mk Tryd.func75 (by kernel_rfl) rfl

/-- The six cells of a configuration at an address. -/
structure CBox (w : World) (b : Nat) (ca ta : Option Addr) (cc tc : Nat) (c : Conf) : Prop where
  b0 : w.cell? ⟨b, 0, none⟩ = some (.slice ca c.cl.length cc)
  b1 : w.cell? ⟨b, 1, none⟩ = some (.int .i64 c.page)
  b2 : w.cell? ⟨b, 2, none⟩ = some (.slice ta c.ts.length tc)
  b3 : w.cell? ⟨b, 3, none⟩ = some (.int .i64 c.wk)
  b4 : w.cell? ⟨b, 4, none⟩ = some (.int .i64 c.gr)
  b5 : w.cell? ⟨b, 5, none⟩ = some (.int .i64 c.gens)
theorem CBox.ext {w w' : World} {b : Nat} {ca ta : Option Addr} {cc tc : Nat} {c : Conf} (h : CBox w b ca ta cc tc c) (hx : Ext w w') : CBox w' b ca ta cc tc c :=
  ⟨hx.cell h.b0, hx.cell h.b1, hx.cell h.b2, hx.cell h.b3, hx.cell h.b4, hx.cell h.b5⟩
theorem CBox.of {w w1 : World} {ca ta : Option Addr} {cc tc : Nat} {c : Conf} (hx : Ext (w.alloc (.cells #[.slice ca c.cl.length cc, .int .i64 c.page, .slice ta c.ts.length tc, .int .i64 c.wk, .int .i64 c.gr, .int .i64 c.gens] 25)) w1) : CBox w1 w.heap.size ca ta cc tc c := by
  obtain ⟨b0, b1, b2, b3, b4, b5⟩ := box6 hx
  exact ⟨b0, b1, b2, b3, b4, b5⟩

set_option maxHeartbeats 2000000 in
theorem conf_words1 {ca ta : Option Addr} {cc tc : Nat} (c : Conf) (i j : Nat) (p : Int) (cb : Nat) (tp : Addr) {w : World} (hp : pagesOf c i j * c.page = p) (ho : KOk c) (hi : i < c.ts.length) (hj : j < c.cl.length)
    (hb : CBox w cb ca ta cc tc c) (ht : w.cell? tp = some (.int .i64 i)) (h : CfgAt w ca ta cc tc c) :
    Calls Tryd.prog 79 #[.int .i64 j, .pointer (some ⟨cb, 0, none⟩), .pointer (some tp)] w fun e w' => e = .returned (.int .i64 p) ∧ Ext w w' := by
  have bd := ho.bounds hi hj
  have u1 := bd.pg1; have u2 := bd.pg2048; have u3 := bd.c2; have u4 := bd.cpage; have u5 := bd.p64
  have pb := ho.page_bound hi hj
  rw [hp] at pb
  have HPG := Lib.hid (kpages_yes (there_mk ((kcheck_iff c).2 ho) hi hj))
  have H := Lib.hid h; have HB := Lib.hid hb; have HP := Lib.hid hp
  obtain ⟨b0, b1, b2, b3, b4, b5⟩ := hb
  clear h ho bd hp
  generalize nth c.cl j = x at *
  generalize pagesOf c i j = pg at *
  have h1 := Ext.refl w
  have HR := Lib.hid (show IntKind.i64.wrap (pg * c.page) = p by rw [HP.out]; exact IntWalk.i64_in _ (by omega))
  go_enter Tryd.func79, Tryd.ntmps79
  go_wp2_with fail
  refine (conf_Pages c _ _ _ _ HPG.out H.out).mono ?_
  clear b0 b1 b2 b3 b4 b5 ht
  rintro e w1 ⟨rfl, h2⟩
  have hb1 := (HB.out.ext h2).b1
  have hr := HR.out
  go_wp2_with fail
  go_ret
  exact ⟨rfl, h2⟩

set_option maxHeartbeats 2000000 in
theorem conf_words {ca ta : Option Addr} {cc tc : Nat} (c : Conf) (i : Nat) (p : Int) {w : World} (hp : wordsOf c i = p) (ho : KOk c) (hi : i < c.ts.length) (h : CfgAt w ca ta cc tc c) :
    Calls Tryd.prog 50 #[.agg #[.slice ca c.cl.length cc, .int .i64 c.page, .slice ta c.ts.length tc, .int .i64 c.wk, .int .i64 c.gr, .int .i64 c.gens], .int .i64 i] w fun e w' => e = .returned (.int .i64 p) ∧ Ext w w' := by
  have hx := ((Ext.refl w).alloc (.cells #[.slice ca c.cl.length cc, .int .i64 c.page, .slice ta c.ts.length tc, .int .i64 c.wk, .int .i64 c.gr, .int .i64 c.gens] 25)).alloc (.cells #[.int .i64 i] 3)
  have hA : AnswersI Tryd.prog 79 #[.pointer (some ⟨w.heap.size, 0, none⟩), .pointer (some ⟨w.heap.size + 1, 0, none⟩)] c.cl.length (fun j => pagesOf c i j * c.page) ((w.alloc (.cells #[.slice ca c.cl.length cc, .int .i64 c.page, .slice ta c.ts.length tc, .int .i64 c.wk, .int .i64 c.gr, .int .i64 c.gens] 25)).alloc (.cells #[.int .i64 i] 3)) := by
    intro j w' hj hw'
    exact conf_words1 c i j _ _ _ rfl ho hi hj (CBox.of (((Ext.refl _).alloc _).trans hw')) (hw'.cell (by simp)) (h.ext (hx.trans hw'))
  have SS := Lib.hid (conf_sum_int ca c.cl.length cc _ _ _ p _ (by have := ho.cl.most; omega) hA (fun j hj => by have := ho.page_bound hi hj; omega) hp enters_words1)
  clear h ho hA hp
  go_enter Tryd.func50, Tryd.ntmps50
  go_wp2_with fail
  refine SS.out.mono ?_
  rintro e w1 ⟨rfl, h2⟩
  go_wp2_with fail
  go_ret
  exact ⟨rfl, hx.trans h2⟩

set_option maxHeartbeats 2000000 in
theorem conf_Region {ca ta : Option Addr} {cc tc : Nat} (c : Conf) (t p q : Int) {w : World} (hpq : kregion c t = (p, q)) (h : CfgAt w ca ta cc tc c) :
    Calls Tryd.prog 25 #[.agg #[.slice ca c.cl.length cc, .int .i64 c.page, .slice ta c.ts.length tc, .int .i64 c.wk, .int .i64 c.gr, .int .i64 c.gens], .int .i64 t] w fun e w' => e = .returned (.tuple #[.int .i64 p, .int .i64 q]) ∧ Ext w w' := by
  have h1 := Ext.refl (w.alloc (.cells #[.slice ca c.cl.length cc, .int .i64 c.page, .slice ta c.ts.length tc, .int .i64 c.wk, .int .i64 c.gr, .int .i64 c.gens] 25))
  have hx := (Ext.refl w).alloc (.cells #[.slice ca c.cl.length cc, .int .i64 c.page, .slice ta c.ts.length tc, .int .i64 c.wk, .int .i64 c.gr, .int .i64 c.gens] 25)
  have H := Lib.hid h; clear h
  by_cases hth : there c t 0
  · obtain ⟨i, j, rfl, hz, hi, hj, ho⟩ := there_nat hth
    rw [kregion_yes hth] at hpq
    obtain ⟨rfl, rfl⟩ : wordsOf c i = p ∧ 0 = q := by simpa using hpq
    have HTH := Lib.hid (show decide (there c i 0) = true by simpa using hth)
    have HO := Lib.hid ho
    clear hpq hz hth ho hj
    generalize hg : wordsOf c i = s at *
    have HG := Lib.hid hg; clear hg
    go_enter Tryd.func25, Tryd.ntmps25
    go_wp2_with fail
    refine (conf_there c _ _ true HTH.out (H.out.ext (hx.trans h1))).mono ?_
    rintro e w1 ⟨rfl, h2⟩
    replace h1 := h1.trans h2
    clear h2
    obtain ⟨b0, b1, b2, b3, b4, b5⟩ := box6 h1
    go_wp2_with fail
    all_goals (try clear b0 b1 b2 b3 b4 b5)
    refine (conf_words c i s HG.out HO.out hi (H.out.ext (hx.trans h1))).mono ?_
    rintro e w2 ⟨rfl, h2⟩
    replace h1 := h1.trans h2
    clear h2
    go_wp2_with fail
    go_ret2
    exact ⟨rfl, hx.trans h1⟩
  · rw [kregion_no hth] at hpq
    obtain ⟨rfl, rfl⟩ : 0 = p ∧ 2 = q := by simpa using hpq
    have HTH := Lib.hid (show decide (there c t 0) = false by simpa using hth)
    clear hpq hth
    go_enter Tryd.func25, Tryd.ntmps25
    go_wp2_with fail
    refine (conf_there c _ _ false HTH.out (H.out.ext (hx.trans h1))).mono ?_
    rintro e w3 ⟨rfl, h2⟩
    replace h1 := h1.trans h2
    clear h2
    obtain ⟨b0, b1, b2, b3, b4, b5⟩ := box6 h1
    go_wp2_with fail
    all_goals (try clear b0 b1 b2 b3 b4 b5)
    go_ret2
    exact ⟨rfl, hx.trans h1⟩

theorem CBox.load {w : World} {b : Nat} {ca ta : Option Addr} {cc tc : Nat} {c : Conf} (h : CBox w b ca ta cc tc c) : w.cell? ⟨b, 0, none⟩ = some (.slice ca c.cl.length cc) := h.b0

set_option maxHeartbeats 2000000 in
theorem conf_Base1 {ca ta : Option Addr} {cc tc : Nat} (c : Conf) (i : Nat) (p : Int) (cb : Nat) {w : World} (hp : wordsOf c i = p) (ho : KOk c) (hi : i < c.ts.length) (hb : CBox w cb ca ta cc tc c) (h : CfgAt w ca ta cc tc c) :
    Calls Tryd.prog 76 #[.int .i64 i, .pointer (some ⟨cb, 0, none⟩)] w fun e w' => e = .returned (.int .i64 p) ∧ Ext w w' := by
  have H := Lib.hid h; have HO := Lib.hid ho; have HP := Lib.hid hp
  obtain ⟨b0, b1, b2, b3, b4, b5⟩ := hb
  clear h ho hp
  go_enter Tryd.func76, Tryd.ntmps76
  go_wp2_with fail
  refine (conf_words c i p HP.out HO.out hi H.out).mono ?_
  clear b0 b1 b2 b3 b4 b5
  rintro e w1 ⟨rfl, h2⟩
  go_wp2_with fail
  go_ret
  exact ⟨rfl, h2⟩
set_option maxHeartbeats 2000000 in
theorem conf_Total1 {ca ta : Option Addr} {cc tc : Nat} (c : Conf) (i : Nat) (p : Int) (cb : Nat) {w : World} (hp : wordsOf c i = p) (ho : KOk c) (hi : i < c.ts.length) (hb : CBox w cb ca ta cc tc c) (h : CfgAt w ca ta cc tc c) :
    Calls Tryd.prog 75 #[.int .i64 i, .pointer (some ⟨cb, 0, none⟩)] w fun e w' => e = .returned (.int .i64 p) ∧ Ext w w' := by
  have H := Lib.hid h; have HO := Lib.hid ho; have HP := Lib.hid hp
  obtain ⟨b0, b1, b2, b3, b4, b5⟩ := hb
  clear h ho hp
  go_enter Tryd.func75, Tryd.ntmps75
  go_wp2_with fail
  refine (conf_words c i p HP.out HO.out hi H.out).mono ?_
  clear b0 b1 b2 b3 b4 b5
  rintro e w1 ⟨rfl, h2⟩
  go_wp2_with fail
  go_ret
  exact ⟨rfl, h2⟩

set_option maxHeartbeats 2000000 in
theorem conf_Total {ca ta : Option Addr} {cc tc : Nat} (c : Conf) (p q : Int) {w : World} (hpq : ktotal c = (p, q)) (h : CfgAt w ca ta cc tc c) :
    Calls Tryd.prog 46 #[.agg #[.slice ca c.cl.length cc, .int .i64 c.page, .slice ta c.ts.length tc, .int .i64 c.wk, .int .i64 c.gr, .int .i64 c.gens]] w fun e w' => e = .returned (.tuple #[.int .i64 p, .int .i64 q]) ∧ Ext w w' := by
  have h1 := Ext.refl (w.alloc (.cells #[.slice ca c.cl.length cc, .int .i64 c.page, .slice ta c.ts.length tc, .int .i64 c.wk, .int .i64 c.gr, .int .i64 c.gens] 25))
  have hx := (Ext.refl w).alloc (.cells #[.slice ca c.cl.length cc, .int .i64 c.page, .slice ta c.ts.length tc, .int .i64 c.wk, .int .i64 c.gr, .int .i64 c.gens] 25)
  have H := Lib.hid h; clear h
  by_cases h0 : kcheck c = 0
  · have ho := kcheck_ok h0
    obtain ⟨rfl, rfl⟩ : baseOf c c.ts.length = p ∧ 0 = q := by unfold ktotal at hpq; rw [if_pos h0] at hpq; simpa using hpq
    have t8 := ho.head.2.2.2.1
    have HO := Lib.hid ho; have H0 := Lib.hid h0
    clear hpq h0 ho
    generalize hg : baseOf c c.ts.length = s at *
    have HG := Lib.hid hg; clear hg
    go_enter Tryd.func46, Tryd.ntmps46
    go_wp2_with fail
    refine (conf_Check' c 0 H0.out (H.out.ext (hx.trans h1))).mono ?_
    rintro e w1 ⟨rfl, h2⟩
    replace h1 := h1.trans h2
    clear h2
    obtain ⟨b0, b1, b2, b3, b4, b5⟩ := box6 h1
    go_wp2_with fail
    all_goals (try clear b0 b1 b2 b3 b4 b5)
    have hA : AnswersI Tryd.prog 75 #[.pointer (some ⟨w.heap.size, 0, none⟩)] c.ts.length (wordsOf c) w1 := by
      intro j w' hj hw'
      exact conf_Total1 c j _ _ rfl HO.out hj (CBox.of (h1.trans hw')) (H.out.ext ((hx.trans h1).trans hw'))
    refine (conf_sum_ten ta c.ts.length tc _ _ _ s _ (by omega) hA (fun j hj => HO.out.words_bound hj) HG.out enters_Total1).mono ?_
    clear hA
    rintro e w2 ⟨rfl, h2⟩
    replace h1 := h1.trans h2
    clear h2
    go_wp2_with fail
    go_ret2
    exact ⟨rfl, hx.trans h1⟩
  · have h2 : kcheck c = 2 := (kcheck_01 _).resolve_left h0
    obtain ⟨rfl, rfl⟩ : 0 = p ∧ 2 = q := by unfold ktotal at hpq; rw [if_neg h0] at hpq; simpa using hpq
    have H2 := Lib.hid h2
    clear h0 h2 hpq
    go_enter Tryd.func46, Tryd.ntmps46
    go_wp2_with fail
    refine (conf_Check' c 2 H2.out (H.out.ext (hx.trans h1))).mono ?_
    rintro e w2 ⟨rfl, h2⟩
    replace h1 := h1.trans h2
    clear h2
    obtain ⟨b0, b1, b2, b3, b4, b5⟩ := box6 h1
    go_wp2_with fail
    all_goals (try clear b0 b1 b2 b3 b4 b5)
    go_ret2
    exact ⟨rfl, hx.trans h1⟩

set_option maxHeartbeats 2000000 in
theorem conf_Base {ca ta : Option Addr} {cc tc : Nat} (c : Conf) (t p q : Int) {w : World} (hpq : kbase c t = (p, q)) (h : CfgAt w ca ta cc tc c) :
    Calls Tryd.prog 47 #[.agg #[.slice ca c.cl.length cc, .int .i64 c.page, .slice ta c.ts.length tc, .int .i64 c.wk, .int .i64 c.gr, .int .i64 c.gens], .int .i64 t] w fun e w' => e = .returned (.tuple #[.int .i64 p, .int .i64 q]) ∧ Ext w w' := by
  have h1 := Ext.refl (w.alloc (.cells #[.slice ca c.cl.length cc, .int .i64 c.page, .slice ta c.ts.length tc, .int .i64 c.wk, .int .i64 c.gr, .int .i64 c.gens] 25))
  have hx := (Ext.refl w).alloc (.cells #[.slice ca c.cl.length cc, .int .i64 c.page, .slice ta c.ts.length tc, .int .i64 c.wk, .int .i64 c.gr, .int .i64 c.gens] 25)
  have hcap := h.tcap
  have hcm := h.tcm
  unfold maxLen at hcm
  have H := Lib.hid h; clear h
  by_cases hth : there c t 0
  · obtain ⟨i, j, rfl, hz, hi, hj, ho⟩ := there_nat hth
    rw [kbase_yes hth] at hpq
    obtain ⟨rfl, rfl⟩ : baseOf c i = p ∧ 0 = q := by simpa using hpq
    have HTH := Lib.hid (show decide (there c i 0) = true by simpa using hth)
    have t8 := ho.head.2.2.2.1
    have HO := Lib.hid ho
    obtain ⟨tb, to_, rfl, ht⟩ := H.out.ts.pos (by omega)
    clear hpq hz hth ho hj ht
    generalize hg : baseOf c i = s at *
    have HG := Lib.hid hg; clear hg
    go_enter Tryd.func47, Tryd.ntmps47
    go_wp2_with fail
    refine (conf_there c _ _ true HTH.out (H.out.ext (hx.trans h1))).mono ?_
    rintro e w1 ⟨rfl, h2⟩
    replace h1 := h1.trans h2
    clear h2
    obtain ⟨b0, b1, b2, b3, b4, b5⟩ := box6 h1
    go_wp2_with fail
    all_goals (try clear b0 b1 b2 b3 b4 b5)
    have hA : AnswersI Tryd.prog 76 #[.pointer (some ⟨w.heap.size, 0, none⟩)] i (wordsOf c) w1 := by
      intro j w' hj hw'
      exact conf_Base1 c j _ _ rfl HO.out (by omega) (CBox.of (h1.trans hw')) (H.out.ext ((hx.trans h1).trans hw'))
    refine (conf_sum_ten _ i tc _ _ _ s _ (by omega) hA (fun j hj => HO.out.words_bound (by omega)) HG.out enters_Base1).mono ?_
    clear hA
    rintro e w2 ⟨rfl, h2⟩
    replace h1 := h1.trans h2
    clear h2
    go_wp2_with fail
    go_ret2
    exact ⟨rfl, hx.trans h1⟩
  · rw [kbase_no hth] at hpq
    obtain ⟨rfl, rfl⟩ : 0 = p ∧ 2 = q := by simpa using hpq
    have HTH := Lib.hid (show decide (there c t 0) = false by simpa using hth)
    clear hpq hth
    go_enter Tryd.func47, Tryd.ntmps47
    go_wp2_with fail
    refine (conf_there c _ _ false HTH.out (H.out.ext (hx.trans h1))).mono ?_
    rintro e w2 ⟨rfl, h2⟩
    replace h1 := h1.trans h2
    clear h2
    obtain ⟨b0, b1, b2, b3, b4, b5⟩ := box6 h1
    go_wp2_with fail
    all_goals (try clear b0 b1 b2 b3 b4 b5)
    go_ret2
    exact ⟨rfl, hx.trans h1⟩

end Go.Proofs.YtnbngcagnchkdaaDoor
