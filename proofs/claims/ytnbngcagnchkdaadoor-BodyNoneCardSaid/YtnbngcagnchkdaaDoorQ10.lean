/-
  Merged texts: Ref07b, Ref07c, Ref07d, Ref08, Ref11, Ref11b, Ref11c, Law11b.
-/
import Derived.Test.YtnbngcagnchkdaaDoorQ09
import Derived.Test.YtnbngcagnchkdaaDoorQ07
import Derived.Test.YtnbngcagnchkdaaDoorQ08
import Derived.Test.YtnbngcagnchkdaaDoorQ03
set_option linter.unusedVariables false
set_option linter.unusedSimpArgs false
/-! commonageref07: In, Load, Store, Zero, All. -/
namespace Go.Proofs.YtnbngcagnchkdaaDoor
open Go.RowKit

/-! ### In, Load -/
theorem partErr_one {c : Conf} {t a k : Int} (h : partErr c t a 1 = k) : (k = 2 ∧ (t < 0 ∨ (c.ts.length : Int) ≤ t)) ∨ (k = 4 ∧ ∃ i : Nat, t = i ∧ i < c.ts.length ∧ (a < 0 ∨ (wordsN c i : Int) ≤ a)) ∨ (k = 0 ∧ ∃ i j : Nat, t = i ∧ a = j ∧ i < c.ts.length ∧ j < wordsN c i) := by
  unfold partErr at h
  split at h
  · exact .inl ⟨h.symm, by assumption⟩
  · rename_i h1
    obtain ⟨i, rfl⟩ : ∃ i : Nat, t = i := ⟨t.toNat, by omega⟩
    rw [Int.toNat_natCast] at h
    split at h
    · rename_i h2
      exact .inr (.inl ⟨h.symm, i, rfl, by omega, by omega⟩)
    · rename_i h2
      exact .inr (.inr ⟨h.symm, i, a.toNat, rfl, by omega, by omega, by omega⟩)

theorem DocAt.words1 {P : Nat → Prop} {w : World} {d i : Nat} {c : Conf} {ws : List Int} (h : DocAt P w d c ws) (hi : i < c.ts.length) : ∃ g rc, w.cell? ⟨d, i, none⟩ = some (.slice (some ⟨g, 0, none⟩) (wordsN c i) rc) ∧ (∀ j, j < wordsN c i → w.cell? ⟨g, j, none⟩ = some (.int .u64 (nth ws (baseN c i + j)))) := by
  obtain ⟨g, rc, _, h1, h2⟩ := h.row i hi
  exact ⟨g, rc, h1, fun j hj => h.word hi hj h2⟩

end Go.Proofs.YtnbngcagnchkdaaDoor

/-! commonageref07: with, Store. -/
namespace Go.Proofs.YtnbngcagnchkdaaDoor
open Go.RowKit

theorem own_words {w : World} {base e n : Nat} {v : Value} {xs : List Int} (h : w.ownsRow base e 1 v (0 + n) ([] ++ ncs .u64 xs)) (h0 : 0 < n) :
    ∃ g cap, v = .slice (some ⟨g, 0, none⟩) n cap ∧ base ≤ g ∧ g < w.heap.size ∧ At .u64 w (some ⟨g, 0, none⟩) xs ∧ ∀ o, w.frozen? ⟨g, o, none⟩ = false := by
  rw [Nat.zero_add, List.nil_append] at h
  obtain ⟨g, cap, rfl, h1, h2, _, h4, h5, h6, h7⟩ := own_ints h h0
  exact ⟨g, cap, rfl, h1, h2, h6, h7⟩

end Go.Proofs.YtnbngcagnchkdaaDoor

/-! commonageref07: Store, Zero, All. -/
namespace Go.Proofs.YtnbngcagnchkdaaDoor
open Go.RowKit

/-- What Zero's loop keeps. -/
structure ZeroR (P : Nat → Prop) (w : World) (c : Conf) (ws : List Int) (A z k d cap : Nat) (wr : World) : Prop where
  b0 : wr.cell? ⟨z, 0, none⟩ = some (.slice (some ⟨d, 0, none⟩) c.ts.length cap)
  b1 : wr.frozen? ⟨z, 0, none⟩ = false
  r0 : wr.cell? ⟨z + 1, 0, none⟩ = some (.slice none 0 0)
  r1 : wr.frozen? ⟨z + 1, 0, none⟩ = false
  doc : DocAt P wr d c (zeroL ws A k)
  ext : Ext w wr
  ne : z + 1 ≠ d

end Go.Proofs.YtnbngcagnchkdaaDoor

/-! commonageref08: May, Put, Get, Need, Field: each hands back what head's own plain function computes. -/
namespace Go.Proofs.YtnbngcagnchkdaaDoor
open Go.RowKit

/-- What is read of a word, put again, is the word, just where head.Get takes it. -/
theorem hdraw_again {u : Int} (k : hdok (hdraw u)) : hdword (hdraw u) = u ↔ hdis u := by
  constructor
  · intro e
    refine ⟨?_, ?_, k⟩
    · rw [← e]; obtain ⟨⟨h1, h2⟩, h3, h4, h5, h6⟩ := k; generalize hdraw u = h at *; unfold hdword; omega
    · rw [← e]; obtain ⟨⟨h1, h2⟩, h3, h4, h5, h6⟩ := k; generalize hdraw u = h at *; unfold hdword; omega
  · exact hdis_word

end Go.Proofs.YtnbngcagnchkdaaDoor

/-! commonageref11: its body's shape; load, lies, Head, field, Ref, Word. (Printed by wip/gen11b.py.) -/
namespace Go.Proofs.YtnbngcagnchkdaaDoor
open Go.RowKit
variable {P Q : Nat → Prop} {w w' W : World} {d lb fb mb lc fc mc cc cap : Nat} {ca : Option Addr} {c : Conf} {t : Nat} {ws ws' : List Int} {s i k u x : Int}

/-- The document's body: its memory and its plan; none of its blocks is one of P. -/
structure DBd (P : Nat → Prop) (w : World) (d lb fb mb : Nat) (ca : Option Addr) (c : Conf) (t : Nat) (ws : List Int) : Prop where
  doc : DocAt P w d c ws
  plan : DPlan w lb fb mb ca c t
  np : ¬ P lb ∧ ¬ P fb ∧ ¬ P mb
  nc : ∀ x o, ca = some ⟨x, o, none⟩ → ¬ P x
  ok : WOk ws
theorem DBd.ext (h : DBd P w d lb fb mb ca c t ws) (hx : Ext w w') : DBd P w' d lb fb mb ca c t ws := ⟨h.doc.ext hx, h.plan.ext hx, h.np, h.nc, h.ok⟩
theorem DBd.chg (h : DBd P w d lb fb mb ca c t ws) (hx : Chg Q w w') (hq : ∀ k, Q k → P k) : DBd P w' d lb fb mb ca c t ws :=
  ⟨h.doc.chg hx hq, h.plan.at hx (fun q => h.np.1 (hq _ q)) (fun q => h.np.2.1 (hq _ q)) (fun q => h.np.2.2 (hq _ q)) (fun x o e q => h.nc x o e (hq _ q)), h.np, h.nc, h.ok⟩
theorem DBd.swap (h : DBd P w d lb fb mb ca c t ws) (hq : ∀ k, k < w.heap.size → Q k → P k) : DBd Q w d lb fb mb ca c t ws := by
  have l := h.plan.lt
  exact ⟨h.doc.swap hq, h.plan, ⟨fun q => h.np.1 (hq _ l.1 q), fun q => h.np.2.1 (hq _ l.2.1 q), fun q => h.np.2.2 (hq _ l.2.2.1 q)⟩, fun x o e q => h.nc x o e (hq _ (l.2.2.2 x o e) q), h.ok⟩
theorem DBd.turn (h : DBd P w d lb fb mb ca c t ws) {d' : Nat} (hd : DocAt P w' d' c ws') (hx : Ext w w') (ho : WOk ws') : DBd P w' d' lb fb mb ca c t ws' := ⟨hd, h.plan.ext hx, h.np, h.nc, ho⟩
theorem DBd.ko (h : DBd P w d lb fb mb ca c t ws) : KOk c := h.plan.ok
theorem DBd.ti (h : DBd P w d lb fb mb ca c t ws) : t < c.ts.length := h.plan.ti
theorem DBd.len (h : DBd P w d lb fb mb ca c t ws) : ws.length = totalN c := h.doc.len
theorem bd1 (w : World) {z : Nat} (hz : w.heap.size = z) (d lb fb mb lc fc mc cc cap : Nat) (ca : Option Addr) (c : Conf) (t : Nat) :
    ∃ W, w.alloc (.cells #[.slice (some ⟨d, 0, none⟩) c.ts.length cap, .int .i64 t, .slice (some ⟨lb, 0, none⟩) (nS c t) lc, .slice (some ⟨fb, 0, none⟩) (nG c t) fc, .slice (some ⟨mb, 0, none⟩) (nG c t) mc, .int .i64 (wordsOf c t), .slice ca c.cl.length cc] 40) = W ∧ BoxG W z [.slice (some ⟨d, 0, none⟩) c.ts.length cap, .int .i64 t, .slice (some ⟨lb, 0, none⟩) (nS c t) lc, .slice (some ⟨fb, 0, none⟩) (nG c t) fc, .slice (some ⟨mb, 0, none⟩) (nG c t) mc, .int .i64 (wordsOf c t), .slice ca c.cl.length cc] ∧ Ext w W :=
  ⟨_, rfl, BoxG.new w _ _ hz, (Ext.refl w).alloc _⟩
/-- A slot's cells. -/
theorem DBd.slot (h : DBd P w d lb fb mb ca c t ws) {n : Nat} (hn : n < nS c t) : w.cell? ⟨lb, n * 4, none⟩ = some (.int .i64 (kOf c t (n : Int) : Int)) ∧ w.cell? ⟨lb, n * 4 + 1, none⟩ = some (.int .i64 (bSz c t (n : Int))) ∧ w.cell? ⟨lb, n * 4 + 2, none⟩ = some (.int .i64 (bAd c t (n : Int))) :=
  ⟨h.plan.l n hn 0 _ rfl, h.plan.l n hn 1 _ rfl, h.plan.l n hn 2 _ rfl⟩
theorem bIn_nat (h : bIn c t s) : ∃ n : Nat, s = n ∧ n < nS c t := ⟨s.toNat, by have := h.1; omega, by have := h.2; have := h.1; omega⟩
theorem bIn_of {n : Nat} (h : n < nS c t) : bIn c t (n : Int) := ⟨Int.natCast_nonneg _, by omega⟩

end Go.Proofs.YtnbngcagnchkdaaDoor

/-! commonageref11: store, Wipe, Make, SetRef, SetWord. (Printed by wip/gen11c.py.) -/
namespace Go.Proofs.YtnbngcagnchkdaaDoor
open Go.RowKit
variable {P Q : Nat → Prop} {w w' W : World} {d lb fb mb lc fc mc cc cap : Nat} {ca : Option Addr} {c : Conf} {t : Nat} {ws ws' : List Int} {s i k u x : Int}

theorem BoxG.set7 {z : Nat} {u0 u1 u2 u3 u4 u5 u6 : Value} (h : BoxG w z [u0, u1, u2, u3, u4, u5, u6]) (v0 v1 v2 v3 v4 v5 v6 : Value) :
    BoxG (((((((w.setCell ⟨z, 0, none⟩ v0).setCell ⟨z, 1, none⟩ v1).setCell ⟨z, 2, none⟩ v2).setCell ⟨z, 3, none⟩ v3).setCell ⟨z, 4, none⟩ v4).setCell ⟨z, 5, none⟩ v5).setCell ⟨z, 6, none⟩ v6) z [v0, v1, v2, v3, v4, v5, v6] :=
  ((((((h.set (i := 0) (by simp) v0).set (i := 1) (by simp) v1).set (i := 2) (by simp) v2).set (i := 3) (by simp) v3).set (i := 4) (by simp) v4).set (i := 5) (by simp) v5).set (i := 6) (by simp) v6
theorem chg7 (w : World) (z : Nat) (v0 v1 v2 v3 v4 v5 v6 : Value) : Chg (fun k => k = z) w (((((((w.setCell ⟨z, 0, none⟩ v0).setCell ⟨z, 1, none⟩ v1).setCell ⟨z, 2, none⟩ v2).setCell ⟨z, 3, none⟩ v3).setCell ⟨z, 4, none⟩ v4).setCell ⟨z, 5, none⟩ v5).setCell ⟨z, 6, none⟩ v6) :=
  ((((((((Chg.refl (fun k => k = z) w).setCell (p := ⟨z, 0, none⟩) (.inl rfl) v0).setCell (p := ⟨z, 1, none⟩) (.inl rfl) v1).setCell (p := ⟨z, 2, none⟩) (.inl rfl) v2).setCell (p := ⟨z, 3, none⟩) (.inl rfl) v3).setCell (p := ⟨z, 4, none⟩) (.inl rfl) v4).setCell (p := ⟨z, 5, none⟩) (.inl rfl) v5).setCell (p := ⟨z, 6, none⟩) (.inl rfl) v6)
/-- Two boxes of a body each lie behind what there was. -/
def P2 (P : Nat → Prop) (z k : Nat) : Prop := P k ∨ k = z ∨ k = z + 1
theorem DBd.two {z : Nat} (h : DBd P w d lb fb mb ca c t ws) (hz : w.heap.size = z) : DBd (P2 P z) w d lb fb mb ca c t ws :=
  h.swap fun k hk q => by rcases q with q | q | q; exact q; all_goals omega
theorem DBd.one {z : Nat} (h : DBd (P2 P z) w d lb fb mb ca c t ws) : DBd P w d lb fb mb ca c t ws := h.swap fun _ _ q => .inl q
theorem bd2 (w : World) {z : Nat} (hz : w.heap.size = z) (d lb fb mb lc fc mc cc cap : Nat) (ca : Option Addr) (c : Conf) (t : Nat) :
    ∃ W, (w.alloc (.cells #[.slice (some ⟨d, 0, none⟩) c.ts.length cap, .int .i64 t, .slice (some ⟨lb, 0, none⟩) (nS c t) lc, .slice (some ⟨fb, 0, none⟩) (nG c t) fc, .slice (some ⟨mb, 0, none⟩) (nG c t) mc, .int .i64 (wordsOf c t), .slice ca c.cl.length cc] 40)).alloc (.cells #[.slice none 0 0, .int .i64 0, .slice none 0 0, .slice none 0 0, .slice none 0 0, .int .i64 0, .slice none 0 0] 40) = W ∧ BoxG W z [.slice (some ⟨d, 0, none⟩) c.ts.length cap, .int .i64 t, .slice (some ⟨lb, 0, none⟩) (nS c t) lc, .slice (some ⟨fb, 0, none⟩) (nG c t) fc, .slice (some ⟨mb, 0, none⟩) (nG c t) mc, .int .i64 (wordsOf c t), .slice ca c.cl.length cc] ∧ BoxG W (z + 1) [.slice none 0 0, .int .i64 0, .slice none 0 0, .slice none 0 0, .slice none 0 0, .int .i64 0, .slice none 0 0] ∧ Ext w W :=
  ⟨_, rfl, (BoxG.new w _ _ hz).ext ((Ext.refl _).alloc _), BoxG.new _ _ _ (by simp [hz]), ((Ext.refl w).alloc _).alloc _⟩
/-- A memory's box, laid ahead of the call, or behind it. -/
theorem mA {W1 w3 : World} {y : Nat} (v : Value) (x3 : Ext W1 w3) (hy : W1.heap.size ≤ y) (c3 : w3.cell? ⟨y, 0, none⟩ = some (.slice none 0 0)) (hd : DocAt P w3 d c ws') :
    ∃ W4, w3.setCell ⟨y, 0, none⟩ v = W4 ∧ W4.cell? ⟨y, 0, none⟩ = some v ∧ y < W4.heap.size ∧ DocAt P W4 d c ws' ∧ Ext W1 W4 := by
  refine ⟨_, rfl, World.cell?_setCell_same _ _ _ c3, by have := cell_lt c3; simpa using this, ?_, ?_⟩
  · refine hd.off (fun e => ?_) c3 (by intro x e; cases e) v
    subst e
    obtain ⟨g, rc, _, h1, _⟩ := hd.row 0 (by have := hd.ok.head.2.2.1; omega)
    rw [c3] at h1; cases h1
  · exact x3.setCell (p := ⟨y, 0, none⟩) hy v
theorem mB {W1 w3 : World} (v : Value) (u : TypeId) (x3 : Ext W1 w3) (hd : DocAt P w3 d c ws') :
    ∃ W4, w3.alloc (.cells #[v] u) = W4 ∧ W4.cell? ⟨w3.heap.size, 0, none⟩ = some v ∧ w3.heap.size < W4.heap.size ∧ DocAt P W4 d c ws' ∧ Ext W1 W4 :=
  ⟨_, rfl, cell_new1 _ _ _, by simp, hd.ext ((Ext.refl _).alloc _), x3.alloc _⟩
/-- A body of other words, made. -/
def DMade (P : Nat → Prop) (w : World) (lb fb mb lc fc mc cc : Nat) (ca : Option Addr) (c : Conf) (t : Nat) (ws' : List Int) (v : Value) (w' : World) : Prop :=
  ∃ d cap, v = .agg #[.slice (some ⟨d, 0, none⟩) c.ts.length cap, .int .i64 t, .slice (some ⟨lb, 0, none⟩) (nS c t) lc, .slice (some ⟨fb, 0, none⟩) (nG c t) fc, .slice (some ⟨mb, 0, none⟩) (nG c t) mc, .int .i64 (wordsOf c t), .slice ca c.cl.length cc] ∧ DBd P w' d lb fb mb ca c t ws' ∧ Ext w w'

/-- A body's box, a head's, another body's lie behind what there was. -/
def P3 (P : Nat → Prop) (z k : Nat) : Prop := P k ∨ k = z ∨ k = z + 1 ∨ k = z + 2
theorem DBd.three {z : Nat} (h : DBd P w d lb fb mb ca c t ws) (hz : w.heap.size = z) : DBd (P3 P z) w d lb fb mb ca c t ws :=
  h.swap fun k hk q => by rcases q with q | q | q | q; exact q; all_goals omega
theorem DBd.one3 {z : Nat} (h : DBd (P3 P z) w d lb fb mb ca c t ws) : DBd P w d lb fb mb ca c t ws := h.swap fun _ _ q => .inl q
theorem bd3 (w : World) {z : Nat} (hz : w.heap.size = z) (d lb fb mb lc fc mc cc cap : Nat) (ca : Option Addr) (c : Conf) (t : Nat) (g : Hd) :
    ∃ W, ((w.alloc (.cells #[.slice (some ⟨d, 0, none⟩) c.ts.length cap, .int .i64 t, .slice (some ⟨lb, 0, none⟩) (nS c t) lc, .slice (some ⟨fb, 0, none⟩) (nG c t) fc, .slice (some ⟨mb, 0, none⟩) (nG c t) mc, .int .i64 (wordsOf c t), .slice ca c.cl.length cc] 40)).alloc (.cells #[.int .i64 g.c, .int .i64 g.r, .int .i64 g.w] 28)).alloc (.cells #[.slice none 0 0, .int .i64 0, .slice none 0 0, .slice none 0 0, .slice none 0 0, .int .i64 0, .slice none 0 0] 40) = W ∧ BoxG W z [.slice (some ⟨d, 0, none⟩) c.ts.length cap, .int .i64 t, .slice (some ⟨lb, 0, none⟩) (nS c t) lc, .slice (some ⟨fb, 0, none⟩) (nG c t) fc, .slice (some ⟨mb, 0, none⟩) (nG c t) mc, .int .i64 (wordsOf c t), .slice ca c.cl.length cc] ∧ BoxG W (z + 1) [.int .i64 g.c, .int .i64 g.r, .int .i64 g.w] ∧ BoxG W (z + 2) [.slice none 0 0, .int .i64 0, .slice none 0 0, .slice none 0 0, .slice none 0 0, .int .i64 0, .slice none 0 0] ∧ Ext w W :=
  ⟨_, rfl, (BoxG.new w _ _ hz).ext (((Ext.refl _).alloc _).alloc _), (BoxG.new (w.alloc _) _ _ (by simp [hz])).ext ((Ext.refl _).alloc _), BoxG.new _ _ _ (by simp [hz]), (((Ext.refl w).alloc _).alloc _).alloc _⟩

end Go.Proofs.YtnbngcagnchkdaaDoor

/-! commonageref11: Refs, Words, SameInts. (Printed by wip/gen11d.py.) -/
namespace Go.Proofs.YtnbngcagnchkdaaDoor
open Go.RowKit
variable {P Q : Nat → Prop} {w w' W : World} {d lb fb mb lc fc mc cc cap : Nat} {ca : Option Addr} {c : Conf} {t : Nat} {ws ws' xs : List Int} {s i k u x : Int}

/-- A row of numbers and an error are told. -/
def RowAns (kd : IntKind) (xs : List Int) (q : Int) (w : World) (e : Ending) (w' : World) : Prop := ∃ a cap, e = .returned (.tuple #[.slice a xs.length cap, .int .i64 q]) ∧ At kd w' a xs ∧ Ext w w'
theorem RowAns.mk {kd : IntKind} {xs : List Int} {q : Int} {e : Ending} {a : Option Addr} {cap : Nat} (h1 : e = .returned (.tuple #[.slice a xs.length cap, .int .i64 q])) (h2 : At kd w' a xs) (h3 : Ext w w') : RowAns kd xs q w e w' := ⟨a, cap, h1, h2, h3⟩
/-- The words of an object, one by one. -/
theorem bWord_eq {hd : Hd} {R M j : Nat} (hh : bHead c t ws s = (hd, 0)) (hR : hd.r = R) (hM : hd.w = M) (hj : j < M) : bWord c t ws s ((R : Int) + j) = (bwd c t ws s (1 + (R + j)), 0) := by
  have ok := (bHead_ok (c := c) (t := t) (ws := ws) (s := s) (by rw [hh])).2.2.1
  rw [hh] at ok
  have f : bField c t ws s ((R : Int) + j) false = 0 := by
    unfold bField
    rw [hh, if_pos rfl]
    have : hdfield hd ((R : Int) + j) = (false, 0) := by
      unfold hdfield
      rw [if_pos ok.1, if_neg (by omega), decide_eq_false (by omega)]
    exact if_pos this
  unfold bWord bLoad
  rw [f, if_pos rfl, show ((R : Int) + j).toNat = R + j by omega]
theorem bWords_in {hd : Hd} {R M j : Nat} {n : Nat} (ko : KOk c) (ti : t < c.ts.length) (hh : bHead c t ws (n : Int) = (hd, 0)) (hR : hd.r = R) (hM : hd.w = M) (hj : j < M) : n < nS c t ∧ ((1 + (R + j) : Nat) : Int) < bSz c t (n : Int) := by
  have q := bHead_ok (c := c) (t := t) (ws := ws) (s := (n : Int)) (by rw [hh])
  rw [hh] at q
  have q3 : hd.r + hd.w + 1 ≤ bSz c t (n : Int) := q.2.2.1.2.2
  have := q.1.2
  omega

set_option maxHeartbeats 4000000 in
theorem ref11_SameInts {a b : Option Addr} {ca cb : Nat} (ha : At .i64 w a xs) (hb : At .i64 w b xs) (hm : xs.length ≤ 1000000) :
    Calls Tryd.prog 23 #[.slice a xs.length ca, .slice b xs.length cb] w fun e w' => e = .returned (.bool true) ∧ Ext w w' := by
  have HA := Lib.hid ha; have HB := Lib.hid hb
  obtain ⟨n, hn⟩ : ∃ n, xs.length = n := ⟨_, rfl⟩
  rw [hn] at hm ⊢
  have HN := Lib.hid hn
  clear ha hb hn
  go_enter Tryd.func23, Tryd.ntmps23
  go_upto_region 4 with fail
  go_loopw [5] (fun iv wr => ∃ i : Nat, i ≤ n ∧ iv = .int .i64 i ∧ Hid (Ext w wr)) (fun iv _ => n - (intOf iv).toNat)
  case atStart => exact ⟨0, Nat.zero_le _, rfl, Lib.hid (Ext.refl _)⟩
  case round =>
    obtain ⟨i, hi, rfl, X⟩ := hrel
    by_cases hlt : i < n
    · obtain ⟨pa, oa, rfl, ac⟩ := HA.out.pos (by rw [HN.out]; omega)
      obtain ⟨pb, ob, rfl, bc⟩ := HB.out.pos (by rw [HN.out]; omega)
      have c0 := X.out.cell (ac i (by rw [HN.out]; exact hlt))
      have c1 := X.out.cell (bc i (by rw [HN.out]; exact hlt))
      clear ac bc
      have i0 : (0 : Int) ≤ (i : Int) := Int.natCast_nonneg _
      have i1 : (i : Int) < (n : Int) := by omega
      generalize nth xs i = v at *
      have tv : (v != v) = false := by simp
      go_upto_region 6 with fail
      have d0 := fun d os => cell_regrown c0 d os; have d1 := fun d os => cell_regrown c1 d os
      clear c0 c1
      refine wp_region_quiet_below (by kernel_rfl) (by kernel_rfl) ?_
      repeat (any_goals (first | go_big_quiet_step (fail) | quiet_step (fail)))
      refine wpQuiet_nil ?_
      intro _ hw'
      obtain ⟨⟨dq, osq⟩, hw''⟩ := hw'
      obtain ⟨WQ, hWQ⟩ := grown_ex hw''
      have xq := hWQ.2
      obtain rfl := hWQ.1
      clear hw'' hWQ
      clear d0 d1
      replace X := Lib.hid (X.out.trans xq)
      go_wp2_with fail
      go_roundw
      case rel => exact ⟨i + 1, by omega, by go_num, X⟩
      case measure => simp [intOf]; omega
    · have t1 : decide (i < n) = false := decide_eq_false hlt
      have t1' : decide ((i : Int) < (n : Int)) = false := decide_eq_false (by omega)
      clear hlt
      go_wp2_with fail
      go_ret
      exact ⟨rfl, X.out⟩

end Go.Proofs.YtnbngcagnchkdaaDoor

/-! commonagelaw11: made. (Printed by wip/gen11m.py.) -/
namespace Go.Proofs.YtnbngcagnchkdaaDoor
open Go.RowKit
variable {w w' W : World} {ca ta : Option Addr} {cc tc : Nat} {c : Conf} {t : Nat}

/-- More than a statement looks at. -/
def bigB (c : Conf) : Bool := !(decide (c.cl.length ≤ 50 ∧ c.ts.length ≤ 50)) || decide (2000 < (ktotal c).1)
theorem lb2 (w : World) {z : Nat} (hz : w.heap.size = z) (ca ta : Option Addr) (cc tc : Nat) (c : Conf) :
    ∃ W, (w.alloc (.cells #[.slice ca c.cl.length cc, .int .i64 c.page, .slice ta c.ts.length tc, .int .i64 c.wk, .int .i64 c.gr, .int .i64 c.gens] 25)).alloc (.cells #[.slice none 0 0, .int .i64 0, .slice none 0 0, .slice none 0 0, .slice none 0 0, .int .i64 0, .slice none 0 0] 40) = W ∧ BoxG W z [.slice ca c.cl.length cc, .int .i64 c.page, .slice ta c.ts.length tc, .int .i64 c.wk, .int .i64 c.gr, .int .i64 c.gens] ∧ BoxG W (z + 1) [.slice none 0 0, .int .i64 0, .slice none 0 0, .slice none 0 0, .slice none 0 0, .int .i64 0, .slice none 0 0] ∧ Ext w W :=
  ⟨_, rfl, (BoxG.new w _ _ hz).ext ((Ext.refl _).alloc _), BoxG.new _ _ _ (by simp [hz]), ((Ext.refl w).alloc _).alloc _⟩

set_option maxRecDepth 100000 in
set_option maxHeartbeats 8000000 in
theorem law11_made_no (c : Conf) (tn : Int) (hb : bigB c = true ∨ kcheck c ≠ 0) (h : CfgAt w ca ta cc tc c) :
    Calls Tryd.prog 4 #[.agg #[.slice ca c.cl.length cc, .int .i64 c.page, .slice ta c.ts.length tc, .int .i64 c.wk, .int .i64 c.gr, .int .i64 c.gens], .int .u8 tn] w fun e w' => e = .returned (.tuple #[.pointer none, .pointer none, .agg #[.slice none 0 0, .int .i64 0, .slice none 0 0, .slice none 0 0, .slice none 0 0, .int .i64 0, .slice none 0 0]]) ∧ Ext w w' := by
  obtain ⟨⟨p, q⟩, hpq⟩ : ∃ pq, ktotal c = pq := ⟨_, rfl⟩
  have PQ := Lib.hid hpq
  have HB := Lib.hid hb
  obtain ⟨z, hz⟩ : ∃ z, w.heap.size = z := ⟨_, rfl⟩
  obtain ⟨W1, hW1, hB, hR, x1⟩ := lb2 w hz ca ta cc tc c
  have B := Lib.hid hB; have R := Lib.hid hR; have X := Lib.hid x1
  have H := Lib.hid (h.ext x1)
  have ZL := Lib.hid (show w.heap.size ≤ z + 1 by omega)
  clear hb hpq h hB hR x1
  have v0 := B.out.c 0 _ rfl; have v1 := B.out.c 1 _ rfl; have v2 := B.out.c 2 _ rfl; have v3 := B.out.c 3 _ rfl; have v4 := B.out.c 4 _ rfl; have v5 := B.out.c 5 _ rfl
  have bz := B.out.lt
  go_enter Tryd.func4, Tryd.ntmps4
  go_wp2_with fail
  clear hW1 hz
  refine (ref06_Total c p q PQ.out H.out).mono ?_
  rintro e w1 ⟨rfl, x⟩
  clear v0 v1 v2 v3 v4 v5 bz
  replace H := Lib.hid (H.out.ext x); replace X := Lib.hid (X.out.trans x); replace B := Lib.hid (B.out.ext x); replace R := Lib.hid (R.out.ext x)
  clear x
  have v0 := B.out.c 0 _ rfl; have v1 := B.out.c 1 _ rfl; have v2 := B.out.c 2 _ rfl; have v3 := B.out.c 3 _ rfl; have v4 := B.out.c 4 _ rfl; have v5 := B.out.c 5 _ rfl
  have bz := B.out.lt
  go_wp2_with fail
  clear v0 v1 v2 v3 v4 v5 bz
  by_cases hs : c.cl.length ≤ 50 ∧ c.ts.length ≤ 50
  · have HS := Lib.hid (show decide (c.cl.length ≤ 50 ∧ c.ts.length ≤ 50) = true by simpa using hs)
    refine (ref06_Small c true HS.out H.out).mono ?_
    rintro e w2 ⟨rfl, x⟩
    replace H := Lib.hid (H.out.ext x); replace X := Lib.hid (X.out.trans x); replace B := Lib.hid (B.out.ext x); replace R := Lib.hid (R.out.ext x)
    clear x
    by_cases hp : 2000 < p
    · have tp : decide (2000 < p) = true := decide_eq_true hp
      clear hs hp
      have r0 := R.out.c 0 _ rfl; have r1 := R.out.c 1 _ rfl; have r2 := R.out.c 2 _ rfl; have r3 := R.out.c 3 _ rfl; have r4 := R.out.c 4 _ rfl; have r5 := R.out.c 5 _ rfl; have r6 := R.out.c 6 _ rfl
      have f0 := R.out.f 0; have f1 := R.out.f 1; have f2 := R.out.f 2; have f3 := R.out.f 3; have f4 := R.out.f 4; have f5 := R.out.f 5; have f6 := R.out.f 6
      have rl := R.out.lt
      go_wp2_with fail
      have RB := R.out.set7 (.slice none 0 0) (.int .i64 0) (.slice none 0 0) (.slice none 0 0) (.slice none 0 0) (.int .i64 0) (.slice none 0 0)
      have q0 := RB.c 0 _ rfl; have q1 := RB.c 1 _ rfl; have q2 := RB.c 2 _ rfl; have q3 := RB.c 3 _ rfl; have q4 := RB.c 4 _ rfl; have q5 := RB.c 5 _ rfl; have q6 := RB.c 6 _ rfl
      refine bodyPost_ret (v := .tuple #[.pointer none, .pointer none, .agg #[.slice none 0 0, .int .i64 0, .slice none 0 0, .slice none 0 0, .slice none 0 0, .int .i64 0, .slice none 0 0]]) (by simp [results, Tryd.results4, go_sem, q0, q1, q2, q3, q4, q5, q6]) rfl ⟨rfl, (chg7 _ (z + 1) (.slice none 0 0) (.int .i64 0) (.slice none 0 0) (.slice none 0 0) (.slice none 0 0) (.int .i64 0) (.slice none 0 0)).over X.out fun k e => by subst e; exact ZL.out⟩
    · have tp : decide (2000 < p) = false := decide_eq_false hp
      have H2 := Lib.hid (show kcheck c = 2 by
        rcases HB.out with hb | hb
        · unfold bigB at hb
          rw [PQ.out] at hb
          simp [hs] at hb
          exact absurd hb hp
        · rcases kcheck_01 c with e | e
          · exact absurd e hb
          · exact e)
      clear hs hp
      have v0 := B.out.c 0 _ rfl; have v1 := B.out.c 1 _ rfl; have v2 := B.out.c 2 _ rfl; have v3 := B.out.c 3 _ rfl; have v4 := B.out.c 4 _ rfl; have v5 := B.out.c 5 _ rfl
      have bz := B.out.lt
      go_wp2_with fail
      clear v0 v1 v2 v3 v4 v5 bz
      refine (ref06_Check c 2 H2.out H.out).mono ?_
      rintro e w3 ⟨rfl, x⟩
      replace H := Lib.hid (H.out.ext x); replace X := Lib.hid (X.out.trans x); replace B := Lib.hid (B.out.ext x); replace R := Lib.hid (R.out.ext x)
      clear x
      have r0 := R.out.c 0 _ rfl; have r1 := R.out.c 1 _ rfl; have r2 := R.out.c 2 _ rfl; have r3 := R.out.c 3 _ rfl; have r4 := R.out.c 4 _ rfl; have r5 := R.out.c 5 _ rfl; have r6 := R.out.c 6 _ rfl
      have f0 := R.out.f 0; have f1 := R.out.f 1; have f2 := R.out.f 2; have f3 := R.out.f 3; have f4 := R.out.f 4; have f5 := R.out.f 5; have f6 := R.out.f 6
      have rl := R.out.lt
      go_wp2_with fail
      have RB := R.out.set7 (.slice none 0 0) (.int .i64 0) (.slice none 0 0) (.slice none 0 0) (.slice none 0 0) (.int .i64 0) (.slice none 0 0)
      have q0 := RB.c 0 _ rfl; have q1 := RB.c 1 _ rfl; have q2 := RB.c 2 _ rfl; have q3 := RB.c 3 _ rfl; have q4 := RB.c 4 _ rfl; have q5 := RB.c 5 _ rfl; have q6 := RB.c 6 _ rfl
      refine bodyPost_ret (v := .tuple #[.pointer none, .pointer none, .agg #[.slice none 0 0, .int .i64 0, .slice none 0 0, .slice none 0 0, .slice none 0 0, .int .i64 0, .slice none 0 0]]) (by simp [results, Tryd.results4, go_sem, q0, q1, q2, q3, q4, q5, q6]) rfl ⟨rfl, (chg7 _ (z + 1) (.slice none 0 0) (.int .i64 0) (.slice none 0 0) (.slice none 0 0) (.slice none 0 0) (.int .i64 0) (.slice none 0 0)).over X.out fun k e => by subst e; exact ZL.out⟩
  · have HS := Lib.hid (show decide (c.cl.length ≤ 50 ∧ c.ts.length ≤ 50) = false by simpa using hs)
    clear hs
    refine (ref06_Small c false HS.out H.out).mono ?_
    rintro e w2 ⟨rfl, x⟩
    replace H := Lib.hid (H.out.ext x); replace X := Lib.hid (X.out.trans x); replace B := Lib.hid (B.out.ext x); replace R := Lib.hid (R.out.ext x)
    clear x
    have r0 := R.out.c 0 _ rfl; have r1 := R.out.c 1 _ rfl; have r2 := R.out.c 2 _ rfl; have r3 := R.out.c 3 _ rfl; have r4 := R.out.c 4 _ rfl; have r5 := R.out.c 5 _ rfl; have r6 := R.out.c 6 _ rfl
    have f0 := R.out.f 0; have f1 := R.out.f 1; have f2 := R.out.f 2; have f3 := R.out.f 3; have f4 := R.out.f 4; have f5 := R.out.f 5; have f6 := R.out.f 6
    have rl := R.out.lt
    go_wp2_with fail
    have RB := R.out.set7 (.slice none 0 0) (.int .i64 0) (.slice none 0 0) (.slice none 0 0) (.slice none 0 0) (.int .i64 0) (.slice none 0 0)
    have q0 := RB.c 0 _ rfl; have q1 := RB.c 1 _ rfl; have q2 := RB.c 2 _ rfl; have q3 := RB.c 3 _ rfl; have q4 := RB.c 4 _ rfl; have q5 := RB.c 5 _ rfl; have q6 := RB.c 6 _ rfl
    refine bodyPost_ret (v := .tuple #[.pointer none, .pointer none, .agg #[.slice none 0 0, .int .i64 0, .slice none 0 0, .slice none 0 0, .slice none 0 0, .int .i64 0, .slice none 0 0]]) (by simp [results, Tryd.results4, go_sem, q0, q1, q2, q3, q4, q5, q6]) rfl ⟨rfl, (chg7 _ (z + 1) (.slice none 0 0) (.int .i64 0) (.slice none 0 0) (.slice none 0 0) (.slice none 0 0) (.int .i64 0) (.slice none 0 0)).over X.out fun k e => by subst e; exact ZL.out⟩

theorem far7 {z b o : Nat} {v v0 v1 v2 v3 v4 v5 v6 : Value} (h : z ≠ b) (hc : w.cell? ⟨b, o, none⟩ = some v) : (((((((w.setCell ⟨z, 0, none⟩ v0).setCell ⟨z, 1, none⟩ v1).setCell ⟨z, 2, none⟩ v2).setCell ⟨z, 3, none⟩ v3).setCell ⟨z, 4, none⟩ v4).setCell ⟨z, 5, none⟩ v5).setCell ⟨z, 6, none⟩ v6).cell? ⟨b, o, none⟩ = some v := (chg7 w z v0 v1 v2 v3 v4 v5 v6).cell (p := ⟨b, o, none⟩) (fun e => h e.symm) hc
/-- A word's block is no other's. -/
theorem MemAt.far_i {b gw gb x : Nat} {ws : List Int} {v : Value} (h : MemAt w b gw gb c ws) (hc : w.cell? ⟨x, 0, none⟩ = some v) (hv : ∀ u, v ≠ .int .u64 u) : x ≠ gw := by
  rintro rfl
  have := h.word (i := 0) (by rw [h.len]; exact h.ok.total_pos)
  rw [hc] at this
  exact hv _ (by injection this)
theorem DPlan.nil_ne {lb fb mb x : Nat} (h : DPlan w lb fb mb ca c t) (hc : w.cell? ⟨x, 0, none⟩ = some (.slice none 0 0)) : lb ≠ x ∧ fb ≠ x ∧ mb ≠ x := by
  have hs := h.ok.nS_pos h.ti
  have hg := h.ok.nG_pos h.ti
  refine ⟨?_, ?_, ?_⟩
  · rintro rfl
    have := h.l 0 (by omega) 0 _ rfl
    rw [Nat.zero_mul, Nat.add_zero, hc] at this; cases this
  · rintro rfl
    obtain ⟨b, o, e, hc'⟩ := h.f 0 (by simp [firsts]; omega)
    cases e
    rw [Nat.zero_add, hc] at hc'; cases hc'
  · rintro rfl
    obtain ⟨b, o, e, hc'⟩ := h.m 0 (by simp [manys]; omega)
    cases e
    rw [Nat.zero_add, hc] at hc'; cases hc'
/-- A box that was nil is turned: the body stays. -/
theorem BodyAt.off {bb mb gw gb pb gp x : Nat} {ws : List Int} (h : BodyAt w bb mb gw gb pb gp c t ws) (hc : w.cell? ⟨x, 0, none⟩ = some (.slice none 0 0)) (hx : Chg (fun k => k = x) w w') : BodyAt w' bb mb gw gb pb gp c t ws := by
  have ne : ∀ (y : Nat) (v : Value), w.cell? ⟨y, 0, none⟩ = some v → v ≠ .slice none 0 0 → y ≠ x := by
    rintro y v hy hv rfl
    rw [hc] at hy; exact hv (by injection hy with e; exact e.symm)
  obtain ⟨cp, m0, _⟩ := h.mem.words
  obtain ⟨cq, p0⟩ := h.plan.parts
  have n1 := ne _ _ (h.box.c 0 _ rfl) (by intro e; cases e)
  have n2 := ne _ _ m0 (by intro e; cases e)
  have n3 := ne _ _ (h.mem.word (i := 0) (by rw [h.mem.len]; exact h.mem.ok.total_pos)) (by intro e; cases e)
  have n4 := ne _ _ (h.mem.base 0 (Nat.zero_le _)) (by intro e; cases e)
  have n5 := ne _ _ p0 (by intro e; cases e)
  have n6 := ne _ _ (h.plan.row 0 h.plan.ok.cl.pos 0 _ rfl) (by intro e; cases e)
  have n7 := ne _ _ h.wid.1 (by intro e; cases e)
  obtain ⟨h0, h1, h2, h3, h4⟩ := h.wid
  exact ⟨h.box.chg hx n1, h.mem.chg hx n2 n3 n4, h.plan.chg hx n5 n6, ⟨hx.cell n7 h0, hx.cell n7 h1, hx.cell n7 h2, hx.cell n7 h3, hx.cell n7 h4⟩, h.ok, h.ne⟩
/-- What made hands back where there is a body. -/
def MadeB (c : Conf) (t : Nat) (ca : Option Addr) (cc : Nat) (w : World) (e : Ending) (w' : World) : Prop :=
  ∃ bb mm gw gb pb gp d cap lb lc fb fc mb mc, e = .returned (.tuple #[.pointer (some ⟨bb, 0, none⟩), .pointer (some ⟨mm, 0, none⟩), .agg #[.slice (some ⟨d, 0, none⟩) c.ts.length cap, .int .i64 t, .slice (some ⟨lb, 0, none⟩) (nS c t) lc, .slice (some ⟨fb, 0, none⟩) (nG c t) fc, .slice (some ⟨mb, 0, none⟩) (nG c t) mc, .int .i64 (wordsOf c t), .slice ca c.cl.length cc]]) ∧
    BodyAt w' bb mm gw gb pb gp c t (List.replicate (totalN c) 0) ∧ DBd (isB gw) w' d lb fb mb ca c t (List.replicate (totalN c) 0) ∧ Ext w w' ∧ w.heap.size ≤ gw

set_option maxRecDepth 100000 in
set_option maxHeartbeats 16000000 in
theorem law11_made (c : Conf) (tn : Int) (hW : Wid w) (hb : bigB c = false) (h0 : kcheck c = 0) (htn : 0 ≤ tn ∧ tn ≤ 255) (hi : t < c.ts.length) (hmod : tn % (c.ts.length : Int) = t) (h : CfgAt w ca ta cc tc c) :
    Calls Tryd.prog 4 #[.agg #[.slice ca c.cl.length cc, .int .i64 c.page, .slice ta c.ts.length tc, .int .i64 c.wk, .int .i64 c.gr, .int .i64 c.gens], .int .u8 tn] w (MadeB c t ca cc w) := by
  have ho := kcheck_ok h0
  have t1 := ho.head.2.2.1
  have t8 := ho.head.2.2.2.1
  obtain ⟨t0, t255⟩ := htn
  have n0 : ¬ c.ts.length = 0 := by omega
  have nz : ¬ (c.ts.length : Int) = 0 := by omega
  have hmt : tn.tmod c.ts.length = t := by rw [Int.tmod_eq_emod_of_nonneg t0]; exact hmod
  have hwi : IntKind.i64.wrap (t : Int) = t := IntWalk.i64_in _ (by omega)
  have hwt : IntKind.i64.wrap tn = tn := IntWalk.i64_in _ (by omega)
  obtain ⟨⟨p, q⟩, hpq⟩ : ∃ pq, ktotal c = pq := ⟨_, rfl⟩
  have hs : c.cl.length ≤ 50 ∧ c.ts.length ≤ 50 ∧ ¬ 2000 < p := by
    unfold bigB at hb
    rw [hpq] at hb
    simp at hb
    omega
  have PQ := Lib.hid hpq
  have HS := Lib.hid (show decide (c.cl.length ≤ 50 ∧ c.ts.length ≤ 50) = true from decide_eq_true ⟨hs.1, hs.2.1⟩)
  have tp : decide (2000 < p) = false := decide_eq_false hs.2.2
  have H0 := Lib.hid h0; have HI := Lib.hid hi; have HW := Lib.hid hW
  have KL : Hid (∀ y o, ca = some ⟨y, o, none⟩ → y < w.heap.size) := Lib.hid fun y o e => by
    obtain ⟨b', o', e', hc⟩ := h.cl 0 (kcheck_ok h0).cl.pos
    rw [e] at e'; cases e'
    exact cell_lt hc
  obtain ⟨z, hz⟩ : ∃ z, w.heap.size = z := ⟨_, rfl⟩
  obtain ⟨W1, hW1, hB, hR, x1⟩ := lb2 w hz ca ta cc tc c
  have B := Lib.hid hB; have R := Lib.hid hR; have X := Lib.hid x1
  have H := Lib.hid (h.ext x1)
  have ZL := Lib.hid (show w.heap.size ≤ z + 1 by omega)
  clear hW ho h0 hb hpq hs h hB hR x1
  have v0 := B.out.c 0 _ rfl; have v1 := B.out.c 1 _ rfl; have v2 := B.out.c 2 _ rfl; have v3 := B.out.c 3 _ rfl; have v4 := B.out.c 4 _ rfl; have v5 := B.out.c 5 _ rfl
  have bz := B.out.lt
  go_enter Tryd.func4, Tryd.ntmps4
  go_wp2_with fail
  clear hW1 hz
  refine (ref06_Total c p q PQ.out H.out).mono ?_
  rintro e w1 ⟨rfl, x⟩
  clear v0 v1 v2 v3 v4 v5 bz
  replace H := Lib.hid (H.out.ext x); replace X := Lib.hid (X.out.trans x); replace B := Lib.hid (B.out.ext x); replace R := Lib.hid (R.out.ext x)
  clear x
  have v0 := B.out.c 0 _ rfl; have v1 := B.out.c 1 _ rfl; have v2 := B.out.c 2 _ rfl; have v3 := B.out.c 3 _ rfl; have v4 := B.out.c 4 _ rfl; have v5 := B.out.c 5 _ rfl
  have bz := B.out.lt
  go_wp2_with fail
  clear v0 v1 v2 v3 v4 v5 bz
  refine (ref06_Small c true HS.out H.out).mono ?_
  rintro e w2 ⟨rfl, x⟩
  replace H := Lib.hid (H.out.ext x); replace X := Lib.hid (X.out.trans x); replace B := Lib.hid (B.out.ext x); replace R := Lib.hid (R.out.ext x)
  clear x
  have v0 := B.out.c 0 _ rfl; have v1 := B.out.c 1 _ rfl; have v2 := B.out.c 2 _ rfl; have v3 := B.out.c 3 _ rfl; have v4 := B.out.c 4 _ rfl; have v5 := B.out.c 5 _ rfl
  have bz := B.out.lt
  go_wp2_with fail
  clear v0 v1 v2 v3 v4 v5 bz
  refine (ref06_Check c 0 H0.out H.out).mono ?_
  rintro e w3 ⟨rfl, x⟩
  replace H := Lib.hid (H.out.ext x); replace X := Lib.hid (X.out.trans x); replace B := Lib.hid (B.out.ext x); replace R := Lib.hid (R.out.ext x)
  clear x
  have v0 := B.out.c 0 _ rfl; have v1 := B.out.c 1 _ rfl; have v2 := B.out.c 2 _ rfl; have v3 := B.out.c 3 _ rfl; have v4 := B.out.c 4 _ rfl; have v5 := B.out.c 5 _ rfl
  have bz := B.out.lt
  go_wp2_with fail
  clear v0 v1 v2 v3 v4 v5 bz
  refine (mem_New c H0.out H.out).mono ?_
  rintro e w4 ⟨mm, gw, gb, rfl, hm, lm, lg, lgb, x⟩
  have HM := Lib.hid hm
  have LG := Lib.hid (Nat.le_trans X.out.size lg)
  clear hm lm lg lgb
  replace H := Lib.hid (H.out.ext x); replace X := Lib.hid (X.out.trans x); replace B := Lib.hid (B.out.ext x); replace R := Lib.hid (R.out.ext x)
  clear x
  have v0 := B.out.c 0 _ rfl; have v1 := B.out.c 1 _ rfl; have v2 := B.out.c 2 _ rfl; have v3 := B.out.c 3 _ rfl; have v4 := B.out.c 4 _ rfl; have v5 := B.out.c 5 _ rfl
  have bz := B.out.lt
  go_wp2_with fail
  clear v0 v1 v2 v3 v4 v5 bz
  refine (slot_New c t H0.out HI.out H.out).mono ?_
  rintro e w5 ⟨pb, gp, rfl, hp, x⟩
  have HP := Lib.hid hp
  replace HM := Lib.hid (HM.out.ext x)
  clear hp
  replace H := Lib.hid (H.out.ext x); replace X := Lib.hid (X.out.trans x); replace B := Lib.hid (B.out.ext x); replace R := Lib.hid (R.out.ext x)
  clear x
  have v0 := B.out.c 0 _ rfl; have v1 := B.out.c 1 _ rfl; have v2 := B.out.c 2 _ rfl; have v3 := B.out.c 3 _ rfl; have v4 := B.out.c 4 _ rfl; have v5 := B.out.c 5 _ rfl
  have bz := B.out.lt
  go_wp2_with fail
  clear v0 v1 v2 v3 v4 v5 bz
  refine (ref09_NewC c t H0.out HI.out H.out).mono ?_
  rintro e w6 ⟨lb, lc, fb, fc, mb, mc, rfl, hd, x⟩
  have HD := Lib.hid hd
  replace HP := Lib.hid (HP.out.ext x); replace HM := Lib.hid (HM.out.ext x)
  clear hd
  replace H := Lib.hid (H.out.ext x); replace X := Lib.hid (X.out.trans x); replace B := Lib.hid (B.out.ext x); replace R := Lib.hid (R.out.ext x)
  clear x
  unfold dpv
  go_upto_region 8 with fail
  obtain ⟨y, hy⟩ : ∃ y, w6.heap.size = y := ⟨_, rfl⟩
  obtain ⟨W7, hW7, hY, x7⟩ : ∃ W, w6.alloc (.cells #[.slice (some ⟨lb, 0, none⟩) (nS c t) lc, .slice (some ⟨fb, 0, none⟩) (nG c t) fc, .slice (some ⟨mb, 0, none⟩) (nG c t) mc, .int .i64 (wordsOf c t), .slice ca c.cl.length cc] 38) = W ∧ BoxG W y [.slice (some ⟨lb, 0, none⟩) (nS c t) lc, .slice (some ⟨fb, 0, none⟩) (nG c t) fc, .slice (some ⟨mb, 0, none⟩) (nG c t) mc, .int .i64 (wordsOf c t), .slice ca c.cl.length cc] ∧ Ext w6 W := ⟨_, rfl, BoxG.new w6 _ _ hy, (Ext.refl _).alloc _⟩
  have Y := Lib.hid hY
  have yz : y ≠ z + 1 := by have := R.out.lt; omega
  rw [hW7, hy]
  replace HP := Lib.hid (HP.out.ext x7); replace HM := Lib.hid (HM.out.ext x7); replace HD := Lib.hid (HD.out.ext x7)
  clear hW7 hy hY
  replace H := Lib.hid (H.out.ext x7); replace X := Lib.hid (X.out.trans x7); replace B := Lib.hid (B.out.ext x7); replace R := Lib.hid (R.out.ext x7)
  clear x7
  go_wp2_with fail
  refine (body_New HM.out HP.out (HW.out.ext X.out) (WOk.rep _) ⟨?_, ?_, ?_⟩).mono ?_
  · obtain ⟨cp, h0⟩ := HP.out.parts
    exact HM.out.far_i h0 (by intro u e; cases e)
  · exact HM.out.far_i (HP.out.row 0 HP.out.ok.cl.pos 0 _ rfl) (by intro u e; cases e)
  · exact HM.out.far_i (HW.out.ext X.out).1 (by intro u e; cases e)
  rintro e w8 ⟨bb, rfl, hbb, x8, lbb⟩
  have HBB := Lib.hid hbb
  replace HD := Lib.hid (HD.out.ext x8); replace Y := Lib.hid (Y.out.ext x8)
  clear hbb lbb HM HP
  replace H := Lib.hid (H.out.ext x8); replace X := Lib.hid (X.out.trans x8); replace B := Lib.hid (B.out.ext x8); replace R := Lib.hid (R.out.ext x8)
  clear x8
  go_upto_region 9 with fail
  have PL := Lib.hid (show ∀ k, (k = gw ∨ k = z + 1) → k < w8.heap.size by
    rintro k (rfl | rfl)
    · exact HBB.out.mem.lt.2.1
    · exact R.out.lt)
  have zz : z + 1 ≠ z := by omega
  have zy : z + 1 ≠ y := Ne.symm yz
  have r0 := R.out.c 0 _ rfl; have r1 := R.out.c 1 _ rfl; have r2 := R.out.c 2 _ rfl; have r3 := R.out.c 3 _ rfl; have r4 := R.out.c 4 _ rfl; have r5 := R.out.c 5 _ rfl; have r6 := R.out.c 6 _ rfl
  have RR := R.out
  have YY := Y.out
  have v0 := B.out.c 0 _ rfl; have v1 := B.out.c 1 _ rfl; have v2 := B.out.c 2 _ rfl; have v3 := B.out.c 3 _ rfl; have v4 := B.out.c 4 _ rfl; have v5 := B.out.c 5 _ rfl
  have y0 := Y.out.c 0 _ rfl; have y1 := Y.out.c 1 _ rfl; have y2 := Y.out.c 2 _ rfl; have y3 := Y.out.c 3 _ rfl; have y4 := Y.out.c 4 _ rfl
  go_region_with ((go_at_call 21; refine (ref07_New (P := fun k => k = gw ∨ k = z + 1) c H0.out ?_ (H.out.ext ?_)).mono ?_; (exact fun k q => Nat.lt_of_lt_of_le (PL.out k q) (Ext.size (by repeat (first | with_reducible exact Ext.refl _ | with_reducible refine Ext.drew ?_ | with_reducible refine Ext.drewN ?_ _ | with_reducible refine Ext.alloc ?_ _)))); (repeat (first | with_reducible exact Ext.refl _ | with_reducible refine Ext.drew ?_ | with_reducible refine Ext.drewN ?_ _ | with_reducible refine Ext.alloc ?_ _)); rintro e w9 ⟨d, cap, rfl, hdoc, ld, x9⟩; have x89 : Ext w8 w9 := Ext.trans (by repeat (first | with_reducible exact Ext.refl _ | with_reducible refine Ext.drew ?_ | with_reducible refine Ext.drewN ?_ _ | with_reducible refine Ext.alloc ?_ _)) x9; have R9 := RR.ext x89; have f0 := R9.f 0; have f1 := R9.f 1; have f2 := R9.f 2; have f3 := R9.f 3; have f4 := R9.f 4; have f5 := R9.f 5; have f6 := R9.f 6; have g0 := R9.c 0 _ rfl; have g1 := R9.c 1 _ rfl; have g2 := R9.c 2 _ rfl; have g3 := R9.c 3 _ rfl; have g4 := R9.c 4 _ rfl; have g5 := R9.c 5 _ rfl; have g6 := R9.c 6 _ rfl; have Y9 := YY.ext x89; have h0 := Y9.c 0 _ rfl; have h1 := Y9.c 1 _ rfl; have h2 := Y9.c 2 _ rfl; have h3 := Y9.c 3 _ rfl; have h4 := Y9.c 4 _ rfl))
  all_goals
    have HDC := Lib.hid hdoc; have X89 := Lib.hid x89; have R9h := Lib.hid R9; have G0 := Lib.hid g0
    clear hdoc x9 R9 Y9 h0 h1 h2 h3 h4 g0 g1 g2 g3 g4 g5 g6 f0 f1 f2 f3 f4 f5 f6 RR YY ld v0 v1 v2 v3 v4 v5 y0 y1 y2 y3 y4 r0 r1 r2 r3 r4 r5 r6 x89
    go_wp2_with fail
    have RB := R9h.out.set7 (.slice (some ⟨d, 0, none⟩) c.ts.length cap) (.int .i64 t) (.slice (some ⟨lb, 0, none⟩) (nS c t) lc) (.slice (some ⟨fb, 0, none⟩) (nG c t) fc) (.slice (some ⟨mb, 0, none⟩) (nG c t) mc) (.int .i64 (wordsOf c t)) (.slice ca c.cl.length cc)
    have q0 := RB.c 0 _ rfl; have q1 := RB.c 1 _ rfl; have q2 := RB.c 2 _ rfl; have q3 := RB.c 3 _ rfl; have q4 := RB.c 4 _ rfl; have q5 := RB.c 5 _ rfl; have q6 := RB.c 6 _ rfl
    have ch := chg7 w9 (z + 1) (.slice (some ⟨d, 0, none⟩) c.ts.length cap) (.int .i64 t) (.slice (some ⟨lb, 0, none⟩) (nS c t) lc) (.slice (some ⟨fb, 0, none⟩) (nG c t) fc) (.slice (some ⟨mb, 0, none⟩) (nG c t) mc) (.int .i64 (wordsOf c t)) (.slice ca c.cl.length cc)
    have hD := HD.out.ext X89.out
    have hB := HBB.out.ext X89.out
    have n1 := hD.nil_ne G0.out
    have lt0 := LG.out
    have ll : w9.cell? ⟨lb, 0, none⟩ = some (.int .i64 _) := hD.l 0 (by have := hD.ok.nS_pos hD.ti; omega) 0 _ rfl
    have DB : DBd (fun k => k = gw ∨ k = z + 1) w9 d lb fb mb ca c t (List.replicate (totalN c) 0) := by
      refine ⟨HDC.out, hD, ⟨?_, ?_, ?_⟩, fun x o e q => ?_, WOk.rep _⟩
      · rintro (q | q)
        · exact hB.mem.far_i ll (by intro u e; cases e) q
        · exact n1.1 q
      · rintro (q | q)
        · obtain ⟨b', o', e', hc⟩ := hD.f 0 (by have := hD.ok.nG_pos hD.ti; simp [firsts]; omega)
          cases e'
          exact hB.mem.far_i hc (by intro u e; cases e) q
        · exact n1.2.1 q
      · rintro (q | q)
        · obtain ⟨b', o', e', hc⟩ := hD.m 0 (by have := hD.ok.nG_pos hD.ti; simp [manys]; omega)
          cases e'
          exact hB.mem.far_i hc (by intro u e; cases e) q
        · exact n1.2.2 q
      · have := KL.out x o e
        have := ZL.out
        rcases q with q | q <;> omega
    refine bodyPost_ret (v := .tuple #[.pointer (some ⟨bb, 0, none⟩), .pointer (some ⟨mm, 0, none⟩), .agg #[.slice (some ⟨d, 0, none⟩) c.ts.length cap, .int .i64 t, .slice (some ⟨lb, 0, none⟩) (nS c t) lc, .slice (some ⟨fb, 0, none⟩) (nG c t) fc, .slice (some ⟨mb, 0, none⟩) (nG c t) mc, .int .i64 (wordsOf c t), .slice ca c.cl.length cc]]) (by simp [results, Tryd.results4, go_sem, q0, q1, q2, q3, q4, q5, q6]) rfl ⟨bb, mm, gw, gb, pb, gp, d, cap, lb, lc, fb, fc, mb, mc, rfl, hB.off G0.out ch, (DB.chg ch fun k e => .inr e).swap fun k _ q => .inl q, ch.over (X.out.trans X89.out) fun k e => by subst e; exact ZL.out, LG.out⟩

end Go.Proofs.YtnbngcagnchkdaaDoor
