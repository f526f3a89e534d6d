/-
  Merged texts: Ref17, CloneL, Ref17b, Ref17d, Ref17e, Ref17f, Ref17g, Ref17h, ArenaE.
-/
import Derived.Test.YtlhajoamebfniaaDoorG10
import Derived.Test.YtlhajoamebfniaaDoorG03
import Derived.Laws.AppendOwnNone
import Derived.Test.YtlhajoamebfniaaDoorG08
set_option linter.unusedVariables false
set_option linter.unusedSimpArgs false
/-! commonageref17: the document's grey: its shape. -/
namespace Go.Proofs.YtlhajoamebfniaaDoor
open Go.RowKit

/-- The page that is walked through, and where: the document's. -/
def PgG (c : Conf) (t : Nat) (g : GS) (pg a : Int) : Prop :=
  (g.at_ = g.en ∧ pg = -1 ∧ a = 0) ∨ (∃ p : Nat, p < nG c t ∧ pg = p ∧ fsN c t p ≤ g.at_ ∧ g.at_ < g.en ∧ g.en = fsN c t p + mnN c t p ∧ a = (g.at_ : Int) - fsN c t p)
/-- The document's grey: its plan, its rows; none of its blocks is one of P. -/
structure DGrey (P : Nat → Prop) (w : World) (lb fb mb : Nat) (ca : Option Addr) (c : Conf) (t n : Nat) (qa : Option Addr) (qc : Nat) (oa da : Option Addr) (g : GS) (pg a : Int) : Prop where
  plan : DPlan w lb fb mb ca c t
  np : ¬ P lb ∧ ¬ P fb ∧ ¬ P mb
  nc : ∀ x o, ca = some ⟨x, o, none⟩ → ¬ P x
  q : At .i64 w qa g.q
  ow : BAt w oa g.ow
  di : BAt w da g.di
  nq : 0 < g.q.length → ∀ x o, qa = some ⟨x, o, none⟩ → ¬ P x
  no : ∀ x o, oa = some ⟨x, o, none⟩ → ¬ P x
  nd : ∀ x o, da = some ⟨x, o, none⟩ → ¬ P x
  qn : qa = none → qc = 0
  ok : GOk c t n g
  n64 : 1 ≤ n ∧ n ≤ 64
  pg : PgG c t g pg a
/-- The cells of its value. -/
def gvs (lb lc fb fc mb mc : Nat) (ca : Option Addr) (cc : Nat) (c : Conf) (t n : Nat) (qs os ds : Value) (pg a : Int) : List Value :=
  [.slice (some ⟨lb, 0, none⟩) (nS c t) lc, .slice (some ⟨fb, 0, none⟩) (nG c t) fc, .slice (some ⟨mb, 0, none⟩) (nG c t) mc, .int .i64 (wordsOf c t), .slice ca c.cl.length cc, .int .i64 n, qs, os, ds, .int .i64 pg, .int .i64 a]
variable {P P' : Nat → Prop} {w w' : World} {lb lc fb fc mb mc cc t n qc oc dc : Nat} {ca qa oa da : Option Addr} {c : Conf} {g g' : GS} {pg a : Int}
theorem DGrey.ext (h : DGrey P w lb fb mb ca c t n qa qc oa da g pg a) (hx : Ext w w') : DGrey P w' lb fb mb ca c t n qa qc oa da g pg a :=
  ⟨h.plan.ext hx, h.np, h.nc, h.q.ext hx, h.ow.ext hx, h.di.ext hx, h.nq, h.no, h.nd, h.qn, h.ok, h.n64, h.pg⟩
theorem DGrey.chg {Q : Nat → Prop} (h : DGrey P w lb fb mb ca c t n qa qc oa da g pg a) (hx : Chg Q w w') (hq : ∀ k, Q k → P k) : DGrey P w' lb fb mb ca c t n qa qc oa da g pg a :=
  ⟨h.plan.at hx (fun q => h.np.1 (hq _ q)) (fun q => h.np.2.1 (hq _ q)) (fun q => h.np.2.2 (hq _ q)) (fun x o e q => h.nc x o e (hq _ q)), h.np, h.nc, h.q.chg hx (fun x o e h0 q => h.nq h0 x o e (hq _ q)), h.ow.chg hx (fun x o e q => h.no x o e (hq _ q)), h.di.chg hx (fun x o e q => h.nd x o e (hq _ q)), h.nq, h.no, h.nd, h.qn, h.ok, h.n64, h.pg⟩
theorem DGrey.mono (h : DGrey P w lb fb mb ca c t n qa qc oa da g pg a) (hp : ∀ k, P' k → P k) : DGrey P' w lb fb mb ca c t n qa qc oa da g pg a :=
  ⟨h.plan, ⟨fun q => h.np.1 (hp _ q), fun q => h.np.2.1 (hp _ q), fun q => h.np.2.2 (hp _ q)⟩, fun x o e q => h.nc x o e (hp _ q), h.q, h.ow, h.di, fun h0 x o e q => h.nq h0 x o e (hp _ q), fun x o e q => h.no x o e (hp _ q), fun x o e q => h.nd x o e (hp _ q), h.qn, h.ok, h.n64, h.pg⟩
theorem DGrey.opos (h : DGrey P w lb fb mb ca c t n qa qc oa da g pg a) : 0 < g.ow.length ∧ 0 < g.di.length := by
  have hs := h.plan.ok.nS_pos h.plan.ti
  have hg := h.plan.ok.nG_pos h.plan.ti
  rw [h.ok.ol, h.ok.dl]; omega
theorem DGrey.lt (h : DGrey P w lb fb mb ca c t n qa qc oa da g pg a) : (0 < g.q.length → ∀ x o, qa = some ⟨x, o, none⟩ → x < w.heap.size) ∧ (∀ x o, oa = some ⟨x, o, none⟩ → x < w.heap.size) ∧ (∀ x o, da = some ⟨x, o, none⟩ → x < w.heap.size) := by
  have hp := h.opos
  refine ⟨fun h0 x o e => ?_, fun x o e => ?_, fun x o e => ?_⟩
  · obtain ⟨b, o', e', hc⟩ := h.q 0 h0
    rw [e] at e'; cases e'; exact cell_lt hc
  · obtain ⟨b, o', e', hc⟩ := h.ow 0 hp.1
    rw [e] at e'; cases e'; exact cell_lt hc
  · obtain ⟨b, o', e', hc⟩ := h.di 0 hp.2
    rw [e] at e'; cases e'; exact cell_lt hc
/-- None of its blocks is new. -/
theorem DGrey.widen (h : DGrey P w lb fb mb ca c t n qa qc oa da g pg a) : DGrey (fun k => P k ∨ w.heap.size ≤ k) w lb fb mb ca c t n qa qc oa da g pg a := by
  obtain ⟨l1, l2, l3⟩ := h.lt
  obtain ⟨p1, p2, p3, p4⟩ := h.plan.lt
  refine ⟨h.plan, ⟨fun q => ?_, fun q => ?_, fun q => ?_⟩, fun x o e q => ?_, h.q, h.ow, h.di, fun h0 x o e q => ?_, fun x o e q => ?_, fun x o e q => ?_, h.qn, h.ok, h.n64, h.pg⟩
  · rcases q with q | q
    · exact h.np.1 q
    · omega
  · rcases q with q | q
    · exact h.np.2.1 q
    · omega
  · rcases q with q | q
    · exact h.np.2.2 q
    · omega
  · rcases q with q | q
    · exact h.nc x o e q
    · have := p4 x o e; omega
  · rcases q with q | q
    · exact h.nq h0 x o e q
    · have := l1 h0 x o e; omega
  · rcases q with q | q
    · exact h.no x o e q
    · have := l2 x o e; omega
  · rcases q with q | q
    · exact h.nd x o e q
    · have := l3 x o e; omega
/-- Behind a store into blocks that were not there. -/
theorem DGrey.over {W W' : World} {Q : Nat → Prop} (h : DGrey P w lb fb mb ca c t n qa qc oa da g pg a) (hx : Ext w W) (hc : Chg Q W W') (hq : ∀ k, Q k → w.heap.size ≤ k) : DGrey P W' lb fb mb ca c t n qa qc oa da g pg a :=
  ((h.widen.ext hx).chg hc (fun k hk => .inr (hq k hk))).mono fun k hk => .inl hk

/-- Rows of the call's own behind a clone. -/
structure CopR (B : Nat) (w' : World) (g : GS) (vq : Value) (go oc gd dc : Nat) : Prop where
  q : w'.ownsRow B 3 1 vq g.q.length (ncs .i64 g.q)
  qb : ∀ x, vq.ownBlock = some x → x < go
  ob : B ≤ go
  lt : go < gd
  db : gd < w'.heap.size
  ow : BAt w' (some ⟨go, 0, none⟩) g.ow
  di : BAt w' (some ⟨gd, 0, none⟩) g.di
  fo : ∀ o, w'.frozen? ⟨go, o, none⟩ = false
  fd : ∀ o, w'.frozen? ⟨gd, o, none⟩ = false
theorem CopR.go {B : Nat} {vq : Value} {go gd : Nat} (h : CopR B w' g vq go oc gd dc) {W : World} (hx : Ext w' W) : CopR B W g vq go oc gd dc :=
  ⟨own_ext h.q hx, h.qb, h.ob, h.lt, Nat.lt_of_lt_of_le h.db hx.size, h.ow.ext hx, h.di.ext hx, fun o => by rw [hx.frozen (p := ⟨go, o, none⟩) (by have := h.lt; have := h.db; show go < _; omega)]; exact h.fo o, fun o => by rw [hx.frozen (p := ⟨gd, o, none⟩) h.db]; exact h.fd o⟩

/-- The document's grey as a value. -/
def DGr (P : Nat → Prop) (w : World) (c : Conf) (t n : Nat) (V : List Value) (g : GS) : Prop :=
  ∃ lb lc fb fc mb mc ca cc qa qc oa oc da dc pg a, V = gvs lb lc fb fc mb mc ca cc c t n (.slice qa g.q.length qc) (.slice oa g.ow.length oc) (.slice da g.di.length dc) pg a ∧ DGrey P w lb fb mb ca c t n qa qc oa da g pg a
theorem DGr.ext {V : List Value} (h : DGr P w c t n V g) (hx : Ext w w') : DGr P w' c t n V g := by
  obtain ⟨lb, lc, fb, fc, mb, mc, ca, cc, qa, qc, oa, oc, da, dc, pg, a, e, h⟩ := h
  exact ⟨lb, lc, fb, fc, mb, mc, ca, cc, qa, qc, oa, oc, da, dc, pg, a, e, h.ext hx⟩
theorem DGr.chg {V : List Value} {Q : Nat → Prop} (h : DGr P w c t n V g) (hx : Chg Q w w') (hq : ∀ k, Q k → P k) : DGr P w' c t n V g := by
  obtain ⟨lb, lc, fb, fc, mb, mc, ca, cc, qa, qc, oa, oc, da, dc, pg, a, e, h⟩ := h
  exact ⟨lb, lc, fb, fc, mb, mc, ca, cc, qa, qc, oa, oc, da, dc, pg, a, e, h.chg hx hq⟩
theorem DGr.mono {V : List Value} (h : DGr P w c t n V g) (hp : ∀ k, P' k → P k) : DGr P' w c t n V g := by
  obtain ⟨lb, lc, fb, fc, mb, mc, ca, cc, qa, qc, oa, oc, da, dc, pg, a, e, h⟩ := h
  exact ⟨lb, lc, fb, fc, mb, mc, ca, cc, qa, qc, oa, oc, da, dc, pg, a, e, h.mono hp⟩
theorem DGr.widen {V : List Value} (h : DGr P w c t n V g) : DGr (fun k => P k ∨ w.heap.size ≤ k) w c t n V g := by
  obtain ⟨lb, lc, fb, fc, mb, mc, ca, cc, qa, qc, oa, oc, da, dc, pg, a, e, h⟩ := h
  exact ⟨lb, lc, fb, fc, mb, mc, ca, cc, qa, qc, oa, oc, da, dc, pg, a, e, h.widen⟩
theorem DGr.over {W W' : World} {Q : Nat → Prop} {V : List Value} (h : DGr P w c t n V g) (hx : Ext w W) (hc : Chg Q W W') (hq : ∀ k, Q k → w.heap.size ≤ k) : DGr P W' c t n V g := by
  obtain ⟨lb, lc, fb, fc, mb, mc, ca, cc, qa, qc, oa, oc, da, dc, pg, a, e, h⟩ := h
  exact ⟨lb, lc, fb, fc, mb, mc, ca, cc, qa, qc, oa, oc, da, dc, pg, a, e, h.over hx hc hq⟩
theorem DGr.ok {V : List Value} (h : DGr P w c t n V g) : GOk c t n g := by
  obtain ⟨lb, lc, fb, fc, mb, mc, ca, cc, qa, qc, oa, oc, da, dc, pg, a, e, h⟩ := h
  exact h.ok
theorem DGr.open {V : List Value} (h : DGr P w c t n V g) : ∃ v0 v1 v2 v3 v4 v5 v6 v7 v8 v9 v10, V = [v0, v1, v2, v3, v4, v5, v6, v7, v8, v9, v10] := by
  obtain ⟨lb, lc, fb, fc, mb, mc, ca, cc, qa, qc, oa, oc, da, dc, pg, a, e, h⟩ := h
  exact ⟨_, _, _, _, _, _, _, _, _, _, _, e⟩
/-- The two boxes of a call: its argument's, its result's. -/
theorem boxes2 (w : World) (V U : List Value) (u u' : TypeId) {z : Nat} (hz : w.heap.size = z) :
    Ext w ((w.alloc (.cells V.toArray u)).alloc (.cells U.toArray u')) ∧ ((w.alloc (.cells V.toArray u)).alloc (.cells U.toArray u')).heap.size = z + 2 ∧ BoxG ((w.alloc (.cells V.toArray u)).alloc (.cells U.toArray u')) z V ∧ BoxG ((w.alloc (.cells V.toArray u)).alloc (.cells U.toArray u')) (z + 1) U := by
  refine ⟨((Ext.refl w).alloc _).alloc _, by simp [hz], (BoxG.new w V u hz).ext ((Ext.refl _).alloc _), BoxG.new _ U u' (by simp [hz])⟩
/-- A struct of eleven cells, stored whole. -/
theorem BoxG.set11 {z : Nat} {u0 u1 u2 u3 u4 u5 u6 u7 u8 u9 u10 : Value} (h : BoxG w z [u0, u1, u2, u3, u4, u5, u6, u7, u8, u9, u10]) (v0 v1 v2 v3 v4 v5 v6 v7 v8 v9 v10 : Value) :
    ∀ W, W = ((((((((((w.setCell ⟨z, 0, none⟩ v0).setCell ⟨z, 1, none⟩ v1).setCell ⟨z, 2, none⟩ v2).setCell ⟨z, 3, none⟩ v3).setCell ⟨z, 4, none⟩ v4).setCell ⟨z, 5, none⟩ v5).setCell ⟨z, 6, none⟩ v6).setCell ⟨z, 7, none⟩ v7).setCell ⟨z, 8, none⟩ v8).setCell ⟨z, 9, none⟩ v9).setCell ⟨z, 10, none⟩ v10 → BoxG W z [v0, v1, v2, v3, v4, v5, v6, v7, v8, v9, v10] ∧ Chg (fun k => k = z) w W := by
  rintro W rfl
  exact ⟨(((((((((((h.set (i := 0) (show 0 < 11 by decide) v0).set (i := 1) (show 1 < 11 by decide) v1).set (i := 2) (show 2 < 11 by decide) v2).set (i := 3) (show 3 < 11 by decide) v3).set (i := 4) (show 4 < 11 by decide) v4).set (i := 5) (show 5 < 11 by decide) v5).set (i := 6) (show 6 < 11 by decide) v6).set (i := 7) (show 7 < 11 by decide) v7).set (i := 8) (show 8 < 11 by decide) v8).set (i := 9) (show 9 < 11 by decide) v9).set (i := 10) (show 10 < 11 by decide) v10), ((((((((((((Chg.refl (fun k => k = z) w).setCell (p := ⟨z, 0, none⟩) (.inl rfl) v0).setCell (p := ⟨z, 1, none⟩) (.inl rfl) v1).setCell (p := ⟨z, 2, none⟩) (.inl rfl) v2).setCell (p := ⟨z, 3, none⟩) (.inl rfl) v3).setCell (p := ⟨z, 4, none⟩) (.inl rfl) v4).setCell (p := ⟨z, 5, none⟩) (.inl rfl) v5).setCell (p := ⟨z, 6, none⟩) (.inl rfl) v6).setCell (p := ⟨z, 7, none⟩) (.inl rfl) v7).setCell (p := ⟨z, 8, none⟩) (.inl rfl) v8).setCell (p := ⟨z, 9, none⟩) (.inl rfl) v9).setCell (p := ⟨z, 10, none⟩) (.inl rfl) v10)⟩
theorem BoxG.then11 {z : Nat} {u0 u1 u2 u3 u4 u5 u6 u7 u8 u9 u10 v0 v1 v2 v3 v4 v5 v6 v7 v8 v9 v10 : Value} {Q : World → Prop} (h : BoxG w z [u0, u1, u2, u3, u4, u5, u6, u7, u8, u9, u10]) (hk : ∀ W', BoxG W' z [v0, v1, v2, v3, v4, v5, v6, v7, v8, v9, v10] → Chg (fun k => k = z) w W' → Q W') : Q (((((((((((w.setCell ⟨z, 0, none⟩ v0).setCell ⟨z, 1, none⟩ v1).setCell ⟨z, 2, none⟩ v2).setCell ⟨z, 3, none⟩ v3).setCell ⟨z, 4, none⟩ v4).setCell ⟨z, 5, none⟩ v5).setCell ⟨z, 6, none⟩ v6).setCell ⟨z, 7, none⟩ v7).setCell ⟨z, 8, none⟩ v8).setCell ⟨z, 9, none⟩ v9).setCell ⟨z, 10, none⟩ v10) := by
  obtain ⟨h1, h2⟩ := h.set11 v0 v1 v2 v3 v4 v5 v6 v7 v8 v9 v10 _ rfl
  exact hk _ h1 h2
/-- No grey of the document's. -/
def gnil : List Value := [.slice none 0 0, .slice none 0 0, .slice none 0 0, .int .i64 0, .slice none 0 0, .int .i64 0, .slice none 0 0, .slice none 0 0, .slice none 0 0, .int .i64 0, .int .i64 0]

end Go.Proofs.YtlhajoamebfniaaDoor

/-! append([]T{}, xs...), xs nil or not: one law for the walk. No program is named here. -/
namespace Go.Proofs.YtlhajoamebfniaaDoor
open Go.RowKit

theorem own_mono {W : World} {base base' e size n : Nat} {v : Value} {xs : List Value} (h : W.ownsRow base e size v n xs) (hb : base' ≤ base) : W.ownsRow base' e size v n xs := by
  obtain ⟨h1, h2 | ⟨g, cap, cur, h2, h3, h4, h5⟩⟩ := h
  · exact ⟨h1, .inl h2⟩
  · exact ⟨h1, .inr ⟨g, cap, cur, h2, Nat.le_trans hb h3, h4, h5⟩⟩
theorem own_chg {Q : Nat → Prop} {W W' : World} {base e size n : Nat} {v : Value} {xs : List Value} (h : W.ownsRow base e size v n xs) (hx : Chg Q W W') (hp : ∀ k, Q k → k < base) : W'.ownsRow base e size v n xs := by
  obtain ⟨h1, h2 | ⟨g, cap, cur, h2, h3, h4, h5⟩⟩ := h
  · exact ⟨h1, .inl h2⟩
  · exact ⟨h1, .inr ⟨g, cap, cur, h2, h3, by rw [hx.block g (Array.getElem?_eq_some_iff.1 h4).1 (fun q => by have := hp g q; omega)]; exact h4, h5⟩⟩
theorem wpList_clone_ints {P : Program} {k : IntKind} {ops : Array Oper} {rest : List Oper} {o : Oper} {a : Act} {Q : Exit → Act → World → Prop} (hgd : o.guard = none) (s x : Operand) (t : TypeId)
    (ho : o.op = .call { callee := .builtin .append, args := #[s, x], argTypes := #[t, t] })
    (e : TypeId) (i : TypeInfo) (ht : P.underlying t = some (.slice e)) (hi : P.info? e = some i) (hz : i.zero = some (.int k 0)) (hsize : i.size = 1) (hby : i.bytes = 8)
    {W : World} {qa : Option Addr} {xs : List Int} {qc : Nat} {b : Nat} (hb : W.heap.size = b) (hs : a.eval s = .slice (some ⟨b, 0, none⟩) 0 0) (hx : a.eval x = .slice qa xs.length qc) (hq : At k W qa xs) (hn : qa = none → qc = 0) (hl : xs.length ≤ 65536)
    (h : ∀ v' w1, w1.ownsRow W.heap.size e 1 v' xs.length (ncs k xs) → Ext W w1 → wpList P ops Q rest (a.put o.dst v') w1) :
    wpList P ops Q (o :: rest) a (W.alloc (.cells #[] e)) := by
  subst hb
  have own := World.ownsRow_made (base := W.heap.size) (e := e) (size := 1) W #[] 0 (Nat.le_refl _) (by decide) rfl
  cases qa with
  | none =>
    obtain rfl := hn rfl
    have x0 : xs = [] := by
      cases xs with
      | nil => rfl
      | cons y r => obtain ⟨b, o, e, _⟩ := hq 0 (by simp); cases e
    subst x0
    refine wpList_append_own_none hgd s x t ho W.heap.size e i 1 ht hi _ 0 [] hs own hx ?_
    exact h _ _ own ((Ext.refl W).alloc _)
  | some ad =>
    refine wpList_append_own _ hgd s x t ho W.heap.size e i (.int k 0) 1 8 ht hi hz hsize hby rfl (by decide) _ 0 [] hs own ad xs.length qc (ncs k xs) hx (by rw [ncs_len, Nat.mul_one]) (fun j u hj => ?_) (ncs_one k xs) (by unfold maxLen; omega) (by omega) (by simp) ?_
    · have hl' : j < xs.length := by have := (List.getElem?_eq_some_iff.1 hj).1; rwa [ncs_len] at this
      rw [ncs_at k xs j hl'] at hj
      cases hj
      obtain ⟨b, o, e, hc⟩ := hq j hl'
      cases e
      rw [Addr.add_lit]
      exact ((Ext.refl W).alloc _).cell hc
    · intro v' w1 hown hgrow _
      rw [Nat.zero_add, List.nil_append] at hown
      exact h _ _ hown (grown_alloc hgrow (Ext.refl W))

theorem wpList_clone_bits {P : Program} {ops : Array Oper} {rest : List Oper} {o : Oper} {a : Act} {Q : Exit → Act → World → Prop} (hgd : o.guard = none) (s x : Operand) (t : TypeId)
    (ho : o.op = .call { callee := .builtin .append, args := #[s, x], argTypes := #[t, t] })
    (e : TypeId) (i : TypeInfo) (ht : P.underlying t = some (.slice e)) (hi : P.info? e = some i) (hz : i.zero = some (.bool false)) (hsize : i.size = 1) (hby : i.bytes = 1)
    {W : World} {qa : Option Addr} {xs : List Bool} {qc : Nat} {b : Nat} (hb : W.heap.size = b) (hs : a.eval s = .slice (some ⟨b, 0, none⟩) 0 0) (hx : a.eval x = .slice qa xs.length qc) (hq : BAt W qa xs) (hn : qa = none → qc = 0) (hl : xs.length ≤ 65536)
    (h : ∀ v' w1, w1.ownsRow W.heap.size e 1 v' xs.length (bcs xs) → Ext W w1 → wpList P ops Q rest (a.put o.dst v') w1) :
    wpList P ops Q (o :: rest) a (W.alloc (.cells #[] e)) := by
  subst hb
  have own := World.ownsRow_made (base := W.heap.size) (e := e) (size := 1) W #[] 0 (Nat.le_refl _) (by decide) rfl
  cases qa with
  | none =>
    obtain rfl := hn rfl
    have x0 : xs = [] := by
      cases xs with
      | nil => rfl
      | cons y r => obtain ⟨b, o, e, _⟩ := hq 0 (by simp); cases e
    subst x0
    refine wpList_append_own_none hgd s x t ho W.heap.size e i 1 ht hi _ 0 [] hs own hx ?_
    exact h _ _ own ((Ext.refl W).alloc _)
  | some ad =>
    refine wpList_append_own _ hgd s x t ho W.heap.size e i (.bool false) 1 1 ht hi hz hsize hby rfl (by decide) _ 0 [] hs own ad xs.length qc (bcs xs) hx (by rw [bcs_len, Nat.mul_one]) (fun j u hj => ?_) (bcs_one xs) (by unfold maxLen; omega) (by omega) (by simp) ?_
    · have hl' : j < xs.length := by have := (List.getElem?_eq_some_iff.1 hj).1; rwa [bcs_len] at this
      rw [bcs_at xs j hl'] at hj
      cases hj
      obtain ⟨b, o, e, hc⟩ := hq j hl'
      cases e
      rw [Addr.add_lit]
      exact ((Ext.refl W).alloc _).cell hc
    · intro v' w1 hown hgrow _
      rw [Nat.zero_add, List.nil_append] at hown
      exact h _ _ hown (grown_alloc hgrow (Ext.refl W))

end Go.Proofs.YtlhajoamebfniaaDoor

/-! commonageref17: copied. -/
namespace Go.Proofs.YtlhajoamebfniaaDoor
open Go.RowKit
variable {P : Nat → Prop} {w w' : World} {lb lc fb fc mb mc cc t n qc oc dc : Nat} {ca qa oa da : Option Addr} {c : Conf} {g g' : GS} {pg a : Int}

set_option maxRecDepth 100000 in
set_option maxHeartbeats 8000000 in
theorem ref17_copied (h : DGrey P w lb fb mb ca c t n qa qc oa da g pg a) :
    Calls Tryd.prog 96 #[.agg (gvs lb lc fb fc mb mc ca cc c t n (.slice qa g.q.length qc) (.slice oa g.ow.length oc) (.slice da g.di.length dc) pg a).toArray] w fun e w' => ∃ vq go oc' gd dc', e = .returned (.agg (gvs lb lc fb fc mb mc ca cc c t n vq (.slice (some ⟨go, 0, none⟩) g.ow.length oc') (.slice (some ⟨gd, 0, none⟩) g.di.length dc') pg a).toArray) ∧ CopR w.heap.size w' g vq go oc' gd dc' ∧ Ext w w' := by
  obtain ⟨i0, hi0, hz0, hz1, hz2⟩ := info_parts info_bool
  obtain ⟨j0, hj0, jz0, jz1, jz2⟩ := info_parts ginfo_i64
  have H := Lib.hid h
  have ol : g.ow.length ≤ 65536 := by have := h.plan.ok.nS_le h.plan.ti; rw [h.ok.ol]; omega
  have dl : g.di.length ≤ 65536 := by
    have hg := h.plan.ok.nG_eq h.plan.ti
    have := (h.plan.ok.sG_le h.plan.ti (k := c.cl.length) (Nat.le_refl _)).2
    have := h.plan.ok.cl.most
    rw [h.ok.dl]; omega
  have ql : g.q.length ≤ 65536 := by have := h.ok.ql; have := h.n64; omega
  have HO : Hid (oa = none → oc = 0) := Lib.hid fun e => by
    obtain ⟨b, o, e', _⟩ := h.ow.pos h.opos.1
    rw [e] at e'; cases e'
  have HD : Hid (da = none → dc = 0) := Lib.hid fun e => by
    obtain ⟨b, o, e', _⟩ := h.di.pos h.opos.2
    rw [e] at e'; cases e'
  have op := Lib.hid h.opos
  clear h
  unfold gvs
  obtain ⟨z, hz⟩ : ∃ z, w.heap.size = z := ⟨_, rfl⟩
  have bx := boxes2 w (gvs lb lc fb fc mb mc ca cc c t n (.slice qa g.q.length qc) (.slice oa g.ow.length oc) (.slice da g.di.length dc) pg a) gnil 33 33 hz
  obtain ⟨W0, hW0⟩ : ∃ W0, (w.alloc (.cells (gvs lb lc fb fc mb mc ca cc c t n (.slice qa g.q.length qc) (.slice oa g.ow.length oc) (.slice da g.di.length dc) pg a).toArray 33)).alloc (.cells gnil.toArray 33) = W0 := ⟨_, rfl⟩
  rw [hW0] at bx
  obtain ⟨x0, sz, b1, b2⟩ := bx
  unfold gvs at b1 hW0
  unfold gnil at b2 hW0
  change (w.alloc (.cells #[_, _, _, _, _, _, _, _, _, _, _] _)).alloc (.cells #[_, _, _, _, _, _, _, _, _, _, _] _) = W0 at hW0
  have X0 := Lib.hid x0; have B1 := Lib.hid b1; have B2 := Lib.hid b2; have SZ := Lib.hid sz; have HZ := Lib.hid hz
  have v6 := b1.c 6 _ rfl; have v7 := b1.c 7 _ rfl; have v8 := b1.c 8 _ rfl
  have bz := b1.lt; have bz1 := b2.lt
  clear x0 b1 b2 sz
  show Calls _ _ #[.agg #[_, _, _, _, _, _, _, _, _, _, _]] _ _
  go_enter Tryd.func96, Tryd.ntmps96
  go_wp2_with (at_builtin; first
    | (refine wpList_clone_ints rfl (.tmp 3) (.tmp 5) 22 rfl 3 j0 Tryd.underlying22 hj0 jz0 jz1 jz2 rfl rfl rfl (H.out.q.ext X0.out) H.out.qn ql ?_; intro vq w1 hq1 x1; obtain ⟨qa', qc', rfl, hnb⟩ := newInts_of hq1; have Q1 := Lib.hid hq1; have X1 := Lib.hid x1; have bz1' := (B2.out.ext x1).lt; clear bz1; have bz1 := bz1'; clear bz1'; have b1 := B1.out.ext x1; have B11 := Lib.hid b1; clear v6 v7 v8; have v6 := b1.c 6 _ rfl; have v7 := b1.c 7 _ rfl; have v8 := b1.c 8 _ rfl; have f6 := b1.f 6; have f7 := b1.f 7; have f8 := b1.f 8; have bz := b1.lt; clear b1 hq1 x1 hnb)
    | (refine wpList_clone_bits rfl (.tmp 8) (.tmp 10) 31 rfl 4 i0 Tryd.underlying31 hi0 hz0 hz1 hz2 (by simp) rfl rfl (H.out.ow.ext ((X0.out.trans X1.out).setCell (by show w.heap.size ≤ z; omega) _)) HO.out ol ?_; (intro vo w2 ho2 x2; obtain ⟨go, oc', rfl, o1, o2, _, o3, o4, o5, o6⟩ := own_bits ho2 op.out.1; have O1 := Lib.hid o1; have O5 := Lib.hid o5; have O6 := Lib.hid o6; have X2 := Lib.hid x2; have B21 := Lib.hid ((B11.out.set (i := 6) (show 6 < 11 by decide) (.slice qa' g.q.length qc')).ext x2); clear v6 v7 v8 f6 f7 f8 bz; have v8 := B21.out.c 8 _ rfl; have v7 := B21.out.c 7 _ rfl; have f7 := B21.out.f 7; have f8 := B21.out.f 8; have bz := B21.out.lt; clear ho2 x2 o1 o3 o4 o5 o6))
    | (refine wpList_clone_bits rfl (.tmp 13) (.tmp 15) 31 rfl 4 i0 Tryd.underlying31 hi0 hz0 hz1 hz2 (by simp) rfl rfl (H.out.di.ext ((((X0.out.trans X1.out).setCell (by show w.heap.size ≤ z; omega) _).trans X2.out).setCell (by show w.heap.size ≤ z; omega) _)) HD.out dl ?_; (intro vd w3 hd3 x3; obtain ⟨gd, dc', rfl, d1, d2, _, d3, d4, d5, d6⟩ := own_bits hd3 op.out.2; have D1 := Lib.hid d1; have D5 := Lib.hid d5; have D6 := Lib.hid d6; have X3 := Lib.hid x3; have b3 := (B21.out.set (i := 7) (show 7 < 11 by decide) (.slice (some ⟨go, 0, none⟩) g.ow.length oc')).ext x3; have B31 := Lib.hid b3; clear v7 v8 f7 f8 bz; have v0 := b3.c 0 _ rfl; have v1 := b3.c 1 _ rfl; have v2 := b3.c 2 _ rfl; have v3 := b3.c 3 _ rfl; have v4 := b3.c 4 _ rfl; have v5 := b3.c 5 _ rfl; have v6 := b3.c 6 _ rfl; have v7 := b3.c 7 _ rfl; have v8 := b3.c 8 _ rfl; have v9 := b3.c 9 _ rfl; have v10 := b3.c 10 _ rfl; have f8 := b3.f 8; have bz := b3.lt; have RB := Lib.hid (((((B2.out.ext X1.out).far (p := ⟨z, 6, none⟩) (show z ≠ z + 1 by omega) (.slice qa' g.q.length qc')).ext X2.out).far (p := ⟨z, 7, none⟩) (show z ≠ z + 1 by omega) (.slice (some ⟨go, 0, none⟩) g.ow.length oc')).ext X3.out); have r0 := RB.out.c 0 _ rfl; have r1 := RB.out.c 1 _ rfl; have r2 := RB.out.c 2 _ rfl; have r3 := RB.out.c 3 _ rfl; have r4 := RB.out.c 4 _ rfl; have r5 := RB.out.c 5 _ rfl; have r6 := RB.out.c 6 _ rfl; have r7 := RB.out.c 7 _ rfl; have r8 := RB.out.c 8 _ rfl; have r9 := RB.out.c 9 _ rfl; have r10 := RB.out.c 10 _ rfl; have k0 := RB.out.f 0; have k1 := RB.out.f 1; have k2 := RB.out.f 2; have k3 := RB.out.f 3; have k4 := RB.out.f 4; have k5 := RB.out.f 5; have k6 := RB.out.f 6; have k7 := RB.out.f 7; have k8 := RB.out.f 8; have k9 := RB.out.f 9; have k10 := RB.out.f 10; have rz := RB.out.lt; clear bz1 hd3 x3 d1 d3 d4 d5 d6 b3)))
  clear r0 r1 r2 r3 r4 r5 r6 r7 r8 r9 r10 k0 k1 k2 k3 k4 k5 k6 k7 k8 k9 k10 v0 v1 v2 v3 v4 v5 v6 v7 v8 v9 v10
  obtain ⟨q11, qc11⟩ := (RB.out.far (p := ⟨z, 8, none⟩) (show z ≠ z + 1 by omega) (.slice (some ⟨gd, 0, none⟩) g.di.length dc')).set11 (.slice (some ⟨lb, 0, none⟩) (nS c t) lc) (.slice (some ⟨fb, 0, none⟩) (nG c t) fc) (.slice (some ⟨mb, 0, none⟩) (nG c t) mc) (.int .i64 (wordsOf c t)) (.slice ca c.cl.length cc) (.int .i64 n) (.slice qa' g.q.length qc') (.slice (some ⟨go, 0, none⟩) g.ow.length oc') (.slice (some ⟨gd, 0, none⟩) g.di.length dc') (.int .i64 pg) (.int .i64 a) _ rfl
  have cz : Chg (fun k => k = z ∨ k = z + 1) w3 _ := ((Chg.refl _ w3).setCell (p := ⟨z, 8, none⟩) (.inl (.inl rfl)) (.slice (some ⟨gd, 0, none⟩) g.di.length dc')).trans (qc11.mono fun k e => .inr e)
  have e2 := ((X0.out.trans X1.out).setCell (p := ⟨z, 6, none⟩) (by show w.heap.size ≤ z; omega) (.slice qa' g.q.length qc')).trans X2.out
  have e3 := (e2.setCell (p := ⟨z, 7, none⟩) (by show w.heap.size ≤ z; omega) (.slice (some ⟨go, 0, none⟩) g.ow.length oc')).trans X3.out
  have s0 := SZ.out
  have s1 := X1.out.size; have s2 := X2.out.size; have s3 := X3.out.size
  have o1 := O1.out; have d1 := D1.out
  rw [World.size_setCell] at s2 s3 o1 d1
  have hq3 := own_chg (own_ext (own_setCell (own_ext (own_setCell Q1.out (p := ⟨z, 6, none⟩) (by show z < _; omega) (.slice qa' g.q.length qc')) X2.out) (p := ⟨z, 7, none⟩) (by show z < _; omega) (.slice (some ⟨go, 0, none⟩) g.ow.length oc')) X3.out) cz (fun k e => by omega)
  have gl : go < w2.heap.size := by
    obtain ⟨b, o, e, hc⟩ := O5.out 0 op.out.1
    cases e; exact cell_lt hc
  have dl' : gd < w3.heap.size := by
    obtain ⟨b, o, e, hc⟩ := D5.out 0 op.out.2
    cases e; exact cell_lt hc
  have ho3 := O5.out.chg (((Chg.refl (fun k => k = z ∨ k = z + 1) w2).setCell (p := ⟨z, 7, none⟩) (.inl (.inl rfl)) (.slice (some ⟨go, 0, none⟩) g.ow.length oc')).trans ((Chg.of_ext X3.out).trans cz)) (fun b o e q => by cases e; omega)
  have hd3 := D5.out.chg cz (fun b o e q => by cases e; omega)
  have cz2 := ((Chg.refl (fun k => k = z ∨ k = z + 1) w2).setCell (p := ⟨z, 7, none⟩) (.inl (.inl rfl)) (.slice (some ⟨go, 0, none⟩) g.ow.length oc')).trans ((Chg.of_ext X3.out).trans cz)
  have q0 := q11.c 0 _ rfl; have q1 := q11.c 1 _ rfl; have q2 := q11.c 2 _ rfl; have q3 := q11.c 3 _ rfl; have q4 := q11.c 4 _ rfl; have q5 := q11.c 5 _ rfl; have q6 := q11.c 6 _ rfl; have q7 := q11.c 7 _ rfl; have q8 := q11.c 8 _ rfl; have q9 := q11.c 9 _ rfl; have q10 := q11.c 10 _ rfl
  refine bodyPost_ret (v := .agg #[.slice (some ⟨lb, 0, none⟩) (nS c t) lc, .slice (some ⟨fb, 0, none⟩) (nG c t) fc, .slice (some ⟨mb, 0, none⟩) (nG c t) mc, .int .i64 (wordsOf c t), .slice ca c.cl.length cc, .int .i64 n, .slice qa' g.q.length qc', .slice (some ⟨go, 0, none⟩) g.ow.length oc', .slice (some ⟨gd, 0, none⟩) g.di.length dc', .int .i64 pg, .int .i64 a]) (by simp [results, Tryd.results96, go_sem, q0, q1, q2, q3, q4, q5, q6, q7, q8, q9, q10]) rfl ⟨_, _, _, _, _, rfl, ⟨own_mono hq3 (by omega), fun x e => ?_, by omega, by omega, Nat.lt_of_lt_of_le dl' cz.size, ho3, hd3, fun o => ?_, fun o => ?_⟩, cz.over e3 (fun k e => by omega)⟩
  · have := (Q1.out.lt x e).2; omega
  · rw [cz2.frozen (p := ⟨go, o, none⟩) gl (fun q => by rcases q with q | q <;> (have q' : go = _ := q; omega))]; exact O6.out o
  · rw [cz.frozen (p := ⟨gd, o, none⟩) dl' (fun q => by rcases q with q | q <;> (have q' : gd = _ := q; omega))]; exact D6.out o

end Go.Proofs.YtlhajoamebfniaaDoor

/-! commonageref17: the two boxes of a call; dirty, Owed, Empty. -/
namespace Go.Proofs.YtlhajoamebfniaaDoor
open Go.RowKit

/-- The two boxes of a call: its argument's (z), its result's. -/
structure Two17 (w W : World) (z : Nat) (V U : List Value) : Prop where
  hz : w.heap.size = z
  ext : Ext w W
  b1 : BoxG W z V
  b2 : BoxG W (z + 1) U
section
variable {w W W' : World} {z : Nat} {V U : List Value}
theorem two17 (w : World) (V U : List Value) (u u' : TypeId) {z : Nat} (hz : w.heap.size = z) : Two17 w ((w.alloc (.cells V.toArray u)).alloc (.cells U.toArray u')) z V U := by
  obtain ⟨h1, _, h3, h4⟩ := boxes2 w V U u u' hz
  exact ⟨hz, h1, h3, h4⟩
theorem Two17.go (h : Two17 w W z V U) (hx : Ext W W') : Two17 w W' z V U := ⟨h.hz, h.ext.trans hx, h.b1.ext hx, h.b2.ext hx⟩
theorem Two17.set1 (h : Two17 w W z V U) {i : Nat} (hi : i < V.length) (v : Value) : Two17 w (W.setCell ⟨z, i, none⟩ v) z (V.set i v) U :=
  ⟨h.hz, h.ext.setCell (p := ⟨z, i, none⟩) (by show w.heap.size ≤ z; rw [h.hz]; exact Nat.le_refl _) v, h.b1.set hi v, h.b2.far (p := ⟨z, i, none⟩) (show z ≠ z + 1 by omega) v⟩
theorem Two17.far (h : Two17 w W z V U) {p : Addr} (hp : z + 2 ≤ p.block) (v : Value) : Two17 w (W.setCell p v) z V U :=
  ⟨h.hz, h.ext.setCell (by rw [h.hz]; omega) v, h.b1.far (by omega) v, h.b2.far (by omega) v⟩
theorem Two17.two (h : Two17 w W z V U) (hc : Chg (fun k => k = z) W W') {V' : List Value} (hb : BoxG W' z V') : Two17 w W' z V' U :=
  ⟨h.hz, hc.over h.ext fun k e => by rw [h.hz, e]; exact Nat.le_refl _, hb, h.b2.chg hc (by omega)⟩
theorem Two17.then1 {u0 u1 u2 u3 u4 u5 u6 u7 u8 u9 u10 v0 v1 v2 v3 v4 v5 v6 v7 v8 v9 v10 : Value} {Q : World → Prop} (h : Two17 w W z [u0, u1, u2, u3, u4, u5, u6, u7, u8, u9, u10] U) (hk : ∀ W', Two17 w W' z [v0, v1, v2, v3, v4, v5, v6, v7, v8, v9, v10] U → Chg (fun k => k = z) W W' → Q W') : Q (((((((((((W.setCell ⟨z, 0, none⟩ v0).setCell ⟨z, 1, none⟩ v1).setCell ⟨z, 2, none⟩ v2).setCell ⟨z, 3, none⟩ v3).setCell ⟨z, 4, none⟩ v4).setCell ⟨z, 5, none⟩ v5).setCell ⟨z, 6, none⟩ v6).setCell ⟨z, 7, none⟩ v7).setCell ⟨z, 8, none⟩ v8).setCell ⟨z, 9, none⟩ v9).setCell ⟨z, 10, none⟩ v10) := by
  obtain ⟨h1, h2⟩ := h.b1.set11 v0 v1 v2 v3 v4 v5 v6 v7 v8 v9 v10 _ rfl
  exact hk _ (h.two h2 h1) h2
theorem Two17.chg {Q : Nat → Prop} (h : Two17 w W z V U) (hc : Chg Q W W') (hq : ∀ k, Q k → z + 2 ≤ k) : Two17 w W' z V U :=
  ⟨h.hz, hc.over h.ext fun k e => by have := hq k e; rw [h.hz]; omega, h.b1.chg hc (fun q => by have := hq _ q; omega), h.b2.chg hc (fun q => by have := hq _ q; omega)⟩
theorem Chg.of_grown {A B : World} {row : Option Nat} (hg : A.grownBy B row) : Chg (fun k => some k = row) A B :=
  ⟨hg.os, hg.tape, hg.output, hg.size, fun k hk hp => hg.block k hk hp⟩
theorem Two17.lt (h : Two17 w W z V U) : z < W.heap.size ∧ z + 1 < W.heap.size := ⟨h.b1.lt, h.b2.lt⟩
end
variable {P : Nat → Prop} {w w' : World} {lb lc fb fc mb mc cc t n qc oc dc : Nat} {ca qa oa da : Option Addr} {c : Conf} {g g' : GS} {pg a : Int}
/-- Other rows of the call's own. -/
theorem DGrey.made {W : World} {qa' oa' da' : Option Addr} {qc' : Nat} {pg' a' : Int} (h : DGrey P w lb fb mb ca c t n qa qc oa da g pg a) (hP : ∀ k, P k → k < w.heap.size) (hx : Ext w W) (hq : At .i64 W qa' g'.q) (ho : BAt W oa' g'.ow) (hd : BAt W da' g'.di) (bq : 0 < g'.q.length → ∀ x o, qa' = some ⟨x, o, none⟩ → w.heap.size ≤ x) (bo : ∀ x o, oa' = some ⟨x, o, none⟩ → w.heap.size ≤ x) (bd : ∀ x o, da' = some ⟨x, o, none⟩ → w.heap.size ≤ x) (qn : qa' = none → qc' = 0) (ok : GOk c t n g') (pk : PgG c t g' pg' a') : DGrey P W lb fb mb ca c t n qa' qc' oa' da' g' pg' a' :=
  ⟨h.plan.ext hx, h.np, h.nc, hq, ho, hd, fun h0 x o e q => by have := hP _ q; have := bq h0 x o e; omega, fun x o e q => by have := hP _ q; have := bo x o e; omega, fun x o e q => by have := hP _ q; have := bd x o e; omega, qn, ok, h.n64, pk⟩
/-- Behind the store of a clone's value into a box. -/
theorem CopR.chg {W W' : World} {vq : Value} {B go gd z : Nat} (h : CopR B W g vq go oc gd dc) (hc : Chg (fun k => k = z) W W') (hz : z < B) : CopR B W' g vq go oc gd dc := by
  have := h.ob; have := h.lt; have db := h.db
  refine ⟨own_chg h.q hc (fun k e => by omega), h.qb, h.ob, h.lt, Nat.lt_of_lt_of_le h.db hc.size, h.ow.chg hc (fun b o e q => by cases e; omega), h.di.chg hc (fun b o e q => by cases e; omega), fun o => ?_, fun o => ?_⟩
  · rw [hc.frozen (p := ⟨go, o, none⟩) (by show go < _; omega) (by show ¬ go = z; omega)]; exact h.fo o
  · rw [hc.frozen (p := ⟨gd, o, none⟩) db (by show ¬ gd = z; omega)]; exact h.fd o

set_option maxHeartbeats 2000000 in
theorem ref17_dirty {k : Int} (h : DGrey P w lb fb mb ca c t n qa qc oa da g pg a) (hk : (match fstD g.di with | some p => (p : Int) | none => -1) = k) :
    Calls Tryd.prog 97 #[.agg (gvs lb lc fb fc mb mc ca cc c t n (.slice qa g.q.length qc) (.slice oa g.ow.length oc) (.slice da g.di.length dc) pg a).toArray] w fun e w' => e = .returned (.int .i64 k) ∧ Ext w w' := by
  have HD := Lib.hid h.di
  have dl : g.di.length ≤ 16384 := by
    have hg := h.plan.ok.nG_eq h.plan.ti
    have := (h.plan.ok.sG_le h.plan.ti (k := c.cl.length) (Nat.le_refl _)).2
    have := h.plan.ok.cl.most
    rw [h.ok.dl]; omega
  have HK := Lib.hid hk
  clear h hk
  unfold gvs
  have hx := (Ext.refl w).alloc (.cells #[.slice (some ⟨lb, 0, none⟩) (nS c t) lc, .slice (some ⟨fb, 0, none⟩) (nG c t) fc, .slice (some ⟨mb, 0, none⟩) (nG c t) mc, .int .i64 (wordsOf c t), .slice ca c.cl.length cc, .int .i64 n, .slice qa g.q.length qc, .slice oa g.ow.length oc, .slice da g.di.length dc, .int .i64 pg, .int .i64 a] 33)
  show Calls _ _ #[.agg #[_, _, _, _, _, _, _, _, _, _, _]] _ _
  go_enter Tryd.func97, Tryd.ntmps97
  go_wp2_with fail
  go_loop [3] (fun iv => ∃ i : Nat, i ≤ g.di.length ∧ iv = .int .i64 i ∧ Hid (∀ j, j < i → bnth g.di j = false)) (fun iv => g.di.length - (intOf iv).toNat)
  case atStart => exact ⟨0, Nat.zero_le _, rfl, Lib.hid fun j hj => absurd hj (Nat.not_lt_zero _)⟩
  case round =>
    obtain ⟨i, hi, rfl, HJ⟩ := hrel
    by_cases hlt : i < g.di.length
    · obtain ⟨gd, od, rfl, hcells⟩ := HD.out.pos (by omega)
      have hck := hx.cell (hcells i hlt)
      clear hcells
      cases hv : bnth g.di i
      · have HV := Lib.hid hv
        rw [hv] at hck
        clear hv
        go_wp2_with fail
        go_round
        case rel => exact ⟨i + 1, by omega, by go_num, Lib.hid fun j hj => by
          rcases Nat.lt_or_ge j i with e | e
          · exact HJ.out j e
          · obtain rfl : j = i := by omega
            exact HV.out⟩
        case measure => simp [intOf]; omega
      · have hk : k = i := by
          have := HK.out
          cases hf : fstD g.di with
          | none => have := fstD_none hf i hlt; rw [hv] at this; cases this
          | some p =>
            obtain ⟨h1, h2, h3⟩ := fstD_some hf
            rw [hf] at this
            have e1 : ¬ p < i := fun e => by rw [HJ.out p e] at h2; cases h2
            have e2 : ¬ i < p := fun e => by rw [h3 i e] at hv; cases hv
            simp only at this
            omega
        subst hk
        rw [hv] at hck
        clear hv
        go_wp2_with fail
        go_ret
        exact ⟨rfl, hx⟩
    · obtain rfl : i = g.di.length := by omega
      have hk : k = -1 := by
        have := HK.out
        cases hf : fstD g.di with
        | none => rw [hf] at this; exact this.symm
        | some p =>
          obtain ⟨h1, h2, _⟩ := fstD_some hf
          rw [HJ.out p h1] at h2; cases h2
      subst hk
      go_wp2_with fail
      go_ret
      exact ⟨rfl, hx⟩

set_option maxHeartbeats 2000000 in
theorem ref17_Owed {m : Nat} (h : DGrey P w lb fb mb ca c t n qa qc oa da g pg a) (hm : owedG g = m) :
    Calls Tryd.prog 37 #[.agg (gvs lb lc fb fc mb mc ca cc c t n (.slice qa g.q.length qc) (.slice oa g.ow.length oc) (.slice da g.di.length dc) pg a).toArray] w fun e w' => e = .returned (.int .i64 m) ∧ Ext w w' := by
  have HD := Lib.hid h.ow
  have dl : g.ow.length ≤ 16384 := by
    have := h.plan.ok.nS_le h.plan.ti
    rw [h.ok.ol]; exact this
  have HM := Lib.hid hm
  clear h hm
  unfold gvs
  have hx := (Ext.refl w).alloc (.cells #[.slice (some ⟨lb, 0, none⟩) (nS c t) lc, .slice (some ⟨fb, 0, none⟩) (nG c t) fc, .slice (some ⟨mb, 0, none⟩) (nG c t) mc, .int .i64 (wordsOf c t), .slice ca c.cl.length cc, .int .i64 n, .slice qa g.q.length qc, .slice oa g.ow.length oc, .slice da g.di.length dc, .int .i64 pg, .int .i64 a] 33)
  show Calls _ _ #[.agg #[_, _, _, _, _, _, _, _, _, _, _]] _ _
  go_enter Tryd.func37, Tryd.ntmps37
  go_wp2_with fail
  go_loop [3, 4] (fun nv iv => ∃ i : Nat, i ≤ g.ow.length ∧ nv = .int .i64 (bcnt g.ow i : Nat) ∧ iv = .int .i64 i) (fun _ iv => g.ow.length - (intOf iv).toNat)
  case atStart => exact ⟨0, Nat.zero_le _, rfl, rfl⟩
  case round =>
    obtain ⟨i, hi, rfl, rfl⟩ := hrel
    by_cases hlt : i < g.ow.length
    · obtain ⟨gd, od, rfl, hcells⟩ := HD.out.pos (by omega)
      have hck := hx.cell (hcells i hlt)
      have cb := bcnt_le g.ow i
      have BS := Lib.hid (bcnt_succ g.ow i)
      clear hcells
      generalize bcnt g.ow i = b at *
      cases hv : bnth g.ow i
      · rw [hv] at hck BS
        clear hv
        go_wp2_with fail
        go_round
        case rel => exact ⟨i + 1, by omega, by rw [BS.out]; simp, by go_num⟩
        case measure => simp [intOf]; omega
      · rw [hv] at hck BS
        clear hv
        go_wp2_with fail
        go_round
        case rel => exact ⟨i + 1, by omega, by rw [BS.out]; go_num, by go_num⟩
        case measure => simp [intOf]; omega
    · obtain rfl : i = g.ow.length := by omega
      rw [show bcnt g.ow g.ow.length = m from HM.out]
      go_wp2_with fail
      go_ret
      exact ⟨rfl, hx⟩

end Go.Proofs.YtlhajoamebfniaaDoor

/-! commonageref17: Empty, Next. -/
namespace Go.Proofs.YtlhajoamebfniaaDoor
open Go.RowKit
variable {P : Nat → Prop} {w w' : World} {lb lc fb fc mb mc cc t n qc oc dc : Nat} {ca qa oa da : Option Addr} {c : Conf} {g g' : GS} {pg a : Int}

set_option maxHeartbeats 4000000 in
theorem ref17_Empty {r : Bool} (h : DGrey P w lb fb mb ca c t n qa qc oa da g pg a) (hr : emptyG g = r) :
    Calls Tryd.prog 38 #[.agg (gvs lb lc fb fc mb mc ca cc c t n (.slice qa g.q.length qc) (.slice oa g.ow.length oc) (.slice da g.di.length dc) pg a).toArray] w fun e w' => e = .returned (.bool r) ∧ Ext w w' := by
  obtain ⟨m, hm⟩ : ∃ m, owedG g = m := ⟨_, rfl⟩
  have hw := Lib.hid (fun W (hx : Ext w W) => ref17_Owed (lc := lc) (fc := fc) (mc := mc) (cc := cc) (oc := oc) (dc := dc) (h.ext hx) hm)
  unfold emptyG at hr
  rw [hm] at hr
  have hpg : (decide (pg < 0)) = decide (g.at_ = g.en) := by
    rcases h.pg with ⟨h1, h2, _⟩ | ⟨p, _, h2, _, h3, _⟩
    · rw [h2, decide_eq_true h1]; rfl
    · rw [decide_eq_false (by omega : ¬ g.at_ = g.en), decide_eq_false (by omega : ¬ pg < 0)]
  have hr' : (decide (g.q.length = 0) && decide (m = 0) && decide (pg < 0)) = r := by
    rw [hpg, ← hr]
    by_cases h1 : g.q.length = 0 <;> by_cases h2 : g.at_ = g.en <;> by_cases h3 : m = 0 <;> simp [h1, h2, h3]
  unfold gvs at *
  have hx := (Ext.refl w).alloc (.cells #[.slice (some ⟨lb, 0, none⟩) (nS c t) lc, .slice (some ⟨fb, 0, none⟩) (nG c t) fc, .slice (some ⟨mb, 0, none⟩) (nG c t) mc, .int .i64 (wordsOf c t), .slice ca c.cl.length cc, .int .i64 n, .slice qa g.q.length qc, .slice oa g.ow.length oc, .slice da g.di.length dc, .int .i64 pg, .int .i64 a] 33)
  show Calls _ _ #[.agg #[_, _, _, _, _, _, _, _, _, _, _]] _ _
  clear h hm hr hpg
  have hv : ∀ w1, Ext (w.alloc (.cells #[.slice (some ⟨lb, 0, none⟩) (nS c t) lc, .slice (some ⟨fb, 0, none⟩) (nG c t) fc, .slice (some ⟨mb, 0, none⟩) (nG c t) mc, .int .i64 (wordsOf c t), .slice ca c.cl.length cc, .int .i64 n, .slice qa g.q.length qc, .slice oa g.ow.length oc, .slice da g.di.length dc, .int .i64 pg, .int .i64 a] 33)) w1 → w1.cell? ⟨w.heap.size, 9, none⟩ = some (.int .i64 pg) := fun _ x => x.cell (by rw [cell_newN]; rfl)
  have HV := Lib.hid hv
  clear hv
  by_cases h1 : g.q.length = 0
  · have t1' : ((g.q.length : Int) == 0) = true := by simp [h1]
    generalize g.q.length = ql at *
    by_cases h2 : m = 0
    · subst h2
      simp only [h1, decide_true, Bool.true_and] at hr'
      clear h1
      cases t3 : decide (pg < 0)
      all_goals
        rw [t3] at hr'
        subst hr'
        go_enter Tryd.func38, Tryd.ntmps38
        go_wp2_with fail
        refine (hw.out _ hx).mono ?_
        rintro e w1 ⟨rfl, h2⟩
        have v9 := HV.out _ h2
        go_wp2_with fail
        go_ret
        exact ⟨rfl, hx.trans h2⟩
    · have t2 : ((m : Int) == 0) = false := by simp [h2]
      simp only [h1, h2, decide_true, decide_false, Bool.and_false, Bool.false_and] at hr'
      clear h1 h2
      subst hr'
      go_enter Tryd.func38, Tryd.ntmps38
      go_wp2_with fail
      refine (hw.out _ hx).mono ?_
      rintro e w1 ⟨rfl, h2⟩
      go_wp2_with fail
      go_ret
      exact ⟨rfl, hx.trans h2⟩
  · have t1' : ((g.q.length : Int) == 0) = false := by rw [beq_eq_false_iff_ne]; omega
    simp only [h1, decide_false, Bool.false_and] at hr'
    generalize g.q.length = ql at *
    clear h1
    subst hr'
    go_enter Tryd.func38, Tryd.ntmps38
    go_wp2_with fail
    go_ret
    exact ⟨rfl, hx⟩

set_option maxRecDepth 100000 in
set_option maxHeartbeats 8000000 in
theorem ref17_Next {x : Int} {b : Bool} (h : DGrey P w lb fb mb ca c t n qa qc oa da g pg a) (hP : ∀ k, P k → k < w.heap.size) (hr : nextG g = (g', x, b)) :
    Calls Tryd.prog 74 #[.agg (gvs lb lc fb fc mb mc ca cc c t n (.slice qa g.q.length qc) (.slice oa g.ow.length oc) (.slice da g.di.length dc) pg a).toArray] w fun e w' => ∃ V', e = .returned (.tuple #[.agg V'.toArray, .int .i64 x, .bool b]) ∧ DGr P w' c t n V' g' ∧ Ext w w' := by
  have H := Lib.hid h; have HP := Lib.hid hP
  clear h hP
  obtain ⟨z, hz⟩ : ∃ z, w.heap.size = z := ⟨_, rfl⟩
  have tw := two17 w (gvs lb lc fb fc mb mc ca cc c t n (.slice qa g.q.length qc) (.slice oa g.ow.length oc) (.slice da g.di.length dc) pg a) gnil 33 33 hz
  obtain ⟨W0, hW0⟩ : ∃ W0, (w.alloc (.cells (gvs lb lc fb fc mb mc ca cc c t n (.slice qa g.q.length qc) (.slice oa g.ow.length oc) (.slice da g.di.length dc) pg a).toArray 33)).alloc (.cells gnil.toArray 33) = W0 := ⟨_, rfl⟩
  rw [hW0] at tw
  unfold gvs at tw hW0 ⊢
  unfold gnil at tw hW0
  change (w.alloc (.cells #[_, _, _, _, _, _, _, _, _, _, _] _)).alloc (.cells #[_, _, _, _, _, _, _, _, _, _, _] _) = W0 at hW0
  have T0 := Lib.hid tw
  have bz := tw.lt.1; have bz1 := tw.lt.2
  have v0 := tw.b1.c 0 _ rfl; have v1 := tw.b1.c 1 _ rfl; have v2 := tw.b1.c 2 _ rfl; have v3 := tw.b1.c 3 _ rfl; have v4 := tw.b1.c 4 _ rfl; have v5 := tw.b1.c 5 _ rfl; have v6 := tw.b1.c 6 _ rfl; have v7 := tw.b1.c 7 _ rfl; have v8 := tw.b1.c 8 _ rfl; have v9 := tw.b1.c 9 _ rfl; have v10 := tw.b1.c 10 _ rfl
  clear tw
  show Calls _ _ #[.agg #[_, _, _, _, _, _, _, _, _, _, _]] _ _
  by_cases h0 : g.q.length = 0
  · have hg : g = g' ∧ x = 0 ∧ b = false := by
      obtain ⟨q, ow, di, at_, en⟩ := g
      cases q with
      | nil => simp only [nextG] at hr; injection hr with e1 e2; injection e2 with e2 e3; exact ⟨e1, e2.symm, e3.symm⟩
      | cons y r => simp at h0
    obtain ⟨rfl, rfl, rfl⟩ := hg
    have t0 : ((g.q.length : Int) == 0) = true := by rw [beq_iff_eq]; omega
    clear h0 hr
    have r0 := T0.out.b2.c 0 _ rfl; have r1 := T0.out.b2.c 1 _ rfl; have r2 := T0.out.b2.c 2 _ rfl; have r3 := T0.out.b2.c 3 _ rfl; have r4 := T0.out.b2.c 4 _ rfl; have r5 := T0.out.b2.c 5 _ rfl; have r6 := T0.out.b2.c 6 _ rfl; have r7 := T0.out.b2.c 7 _ rfl; have r8 := T0.out.b2.c 8 _ rfl; have r9 := T0.out.b2.c 9 _ rfl; have r10 := T0.out.b2.c 10 _ rfl; have k0 := T0.out.b2.f 0; have k1 := T0.out.b2.f 1; have k2 := T0.out.b2.f 2; have k3 := T0.out.b2.f 3; have k4 := T0.out.b2.f 4; have k5 := T0.out.b2.f 5; have k6 := T0.out.b2.f 6; have k7 := T0.out.b2.f 7; have k8 := T0.out.b2.f 8; have k9 := T0.out.b2.f 9; have k10 := T0.out.b2.f 10
    go_enter Tryd.func74, Tryd.ntmps74
    go_wp2_with fail
    clear r0 r1 r2 r3 r4 r5 r6 r7 r8 r9 r10 k0 k1 k2 k3 k4 k5 k6 k7 k8 k9 k10 v0 v1 v2 v3 v4 v5 v6 v7 v8 v9 v10
    have hz' := T0.out.hz
    obtain ⟨q11, qc11⟩ := (T0.out.b2).set11 (.slice (some ⟨lb, 0, none⟩) (nS c t) lc) (.slice (some ⟨fb, 0, none⟩) (nG c t) fc) (.slice (some ⟨mb, 0, none⟩) (nG c t) mc) (.int .i64 (wordsOf c t)) (.slice ca c.cl.length cc) (.int .i64 n) (.slice qa g.q.length qc) (.slice oa g.ow.length oc) (.slice da g.di.length dc) (.int .i64 pg) (.int .i64 a) _ rfl
    have q0 := q11.c 0 _ rfl; have q1 := q11.c 1 _ rfl; have q2 := q11.c 2 _ rfl; have q3 := q11.c 3 _ rfl; have q4 := q11.c 4 _ rfl; have q5 := q11.c 5 _ rfl; have q6 := q11.c 6 _ rfl; have q7 := q11.c 7 _ rfl; have q8 := q11.c 8 _ rfl; have q9 := q11.c 9 _ rfl; have q10 := q11.c 10 _ rfl
    refine bodyPost_ret (v := .tuple #[.agg #[.slice (some ⟨lb, 0, none⟩) (nS c t) lc, .slice (some ⟨fb, 0, none⟩) (nG c t) fc, .slice (some ⟨mb, 0, none⟩) (nG c t) mc, .int .i64 (wordsOf c t), .slice ca c.cl.length cc, .int .i64 n, .slice qa g.q.length qc, .slice oa g.ow.length oc, .slice da g.di.length dc, .int .i64 pg, .int .i64 a], .int .i64 0, .bool false]) (by simp [results, Tryd.results74, go_sem, q0, q1, q2, q3, q4, q5, q6, q7, q8, q9, q10]) rfl ⟨[.slice (some ⟨lb, 0, none⟩) (nS c t) lc, .slice (some ⟨fb, 0, none⟩) (nG c t) fc, .slice (some ⟨mb, 0, none⟩) (nG c t) mc, .int .i64 (wordsOf c t), .slice ca c.cl.length cc, .int .i64 n, .slice qa g.q.length qc, .slice oa g.ow.length oc, .slice da g.di.length dc, .int .i64 pg, .int .i64 a], rfl, ⟨lb, lc, fb, fc, mb, mc, ca, cc, qa, qc, oa, oc, da, dc, pg, a, rfl, H.out.over T0.out.ext qc11 (fun k e => by omega)⟩, qc11.over T0.out.ext (fun k e => by omega)⟩
  · obtain ⟨r, hq, rfl, rfl⟩ : ∃ r, g.q = x :: r ∧ g' = { g with q := r } ∧ b = true := by
      obtain ⟨q, ow, di, at_, en⟩ := g
      cases q with
      | nil => exact absurd rfl h0
      | cons y r => simp only [nextG] at hr; injection hr with e1 e2; injection e2 with e2 e3; subst e2; exact ⟨r, rfl, e1.symm, e3.symm⟩
    have HQ := Lib.hid hq
    have t0 : ((g.q.length : Int) == 0) = false := by rw [beq_eq_false_iff_ne]; omega
    have hpos : 0 < g.q.length := by omega
    obtain ⟨b0, o0, rfl, hc0⟩ := H.out.q.pos hpos
    have cx : W0.cell? ⟨b0, o0, none⟩ = some (.int .i64 x) := by
      have := T0.out.ext.cell (hc0 0 hpos)
      rw [hq] at this; exact this
    clear h0 hr hc0 hq
    go_enter Tryd.func74, Tryd.ntmps74
    go_wp2_with fail
    refine (ref17_copied (H.out.ext T0.out.ext)).mono ?_
    rintro e w1 ⟨vq, go, oc', gd, dc', rfl, hcp, x1⟩
    obtain ⟨gq, qc', rfl, k1, k2, _, k3, k4, k5, k6⟩ := own_ints hcp.q hpos
    have T1 := Lib.hid (T0.out.go x1)
    have C1 := Lib.hid hcp; have X1 := Lib.hid x1; have K1 := Lib.hid k1; have K4 := Lib.hid k4; have K5 := Lib.hid k5
    clear v0 v1 v2 v3 v4 v5 v6 v7 v8 v9 v10 bz bz1 hcp x1 k1 k5 k6 cx t0 k4
    have v0 := T1.out.b1.c 0 _ rfl; have v1 := T1.out.b1.c 1 _ rfl; have v2 := T1.out.b1.c 2 _ rfl; have v3 := T1.out.b1.c 3 _ rfl; have v4 := T1.out.b1.c 4 _ rfl; have v5 := T1.out.b1.c 5 _ rfl; have v6 := T1.out.b1.c 6 _ rfl; have v7 := T1.out.b1.c 7 _ rfl; have v8 := T1.out.b1.c 8 _ rfl; have v9 := T1.out.b1.c 9 _ rfl; have v10 := T1.out.b1.c 10 _ rfl; have f0 := T1.out.b1.f 0; have f1 := T1.out.b1.f 1; have f2 := T1.out.b1.f 2; have f3 := T1.out.b1.f 3; have f4 := T1.out.b1.f 4; have f5 := T1.out.b1.f 5; have f6 := T1.out.b1.f 6; have f7 := T1.out.b1.f 7; have f8 := T1.out.b1.f 8; have f9 := T1.out.b1.f 9; have f10 := T1.out.b1.f 10
    have bz := T1.out.lt.1; have bz1 := T1.out.lt.2
    unfold gvs
    go_upto_region 5 with fail
    clear v0 v1 v2 v3 v4 v5 v6 v7 v8 v9 v10 f0 f1 f2 f3 f4 f5 f6 f7 f8 f9 f10 bz bz1
    refine T1.out.then1 (Q := Code.wp _ _ _ _) ?_
    intro W2 t2 c2
    have T2 := Lib.hid t2; have C2 := Lib.hid (C1.out.chg c2 (T0.out.lt.1))
    have v6 := t2.b1.c 6 _ rfl; have f6 := t2.b1.f 6
    have bz := T2.out.lt.1; have bz1 := T2.out.lt.2
    have l1 : (1 : Int) ≤ (g.q.length : Int) := by omega
    clear t2
    go_upto_region 6 with fail
    obtain ⟨o1, e1, hr1⟩ : ∃ o1, (if qc' = 1 then some (⟨gq, 0, none⟩ : Addr) else some ⟨gq, 1, none⟩) = some ⟨gq, o1, none⟩ ∧ ∀ W, At .i64 W (some ⟨gq, 0, none⟩) g.q → At .i64 W (some ⟨gq, o1, none⟩) r := by
      have hql := HQ.out
      by_cases h1 : qc' = 1
      · refine ⟨0, by rw [if_pos h1], fun W _ => ?_⟩
        have : r = [] := by
          have : g.q.length = r.length + 1 := by rw [hql]; rfl
          exact List.length_eq_zero_iff.1 (by omega)
        subst this; exact At.nil
      · refine ⟨1, by rw [if_neg h1], fun W hA => At.mk fun i hi => ?_⟩
        obtain ⟨b, o, e, hc⟩ := hA (i + 1) (by rw [hql]; simp; omega)
        cases e
        rw [hql] at hc
        rw [Nat.zero_add] at hc
        rw [Nat.add_comm 1 i]; exact hc
    rw [e1]
    have HR1 := Lib.hid hr1
    have T3 := Lib.hid (T2.out.set1 (i := 6) (show 6 < 11 by decide) (.slice (some ⟨gq, o1, none⟩) (g.q.length - 1) (qc' - 1)))
    have C3 := Lib.hid (C2.out.chg ((Chg.refl (fun k => k = z) W2).setCell (p := ⟨z, 6, none⟩) (.inl rfl) (.slice (some ⟨gq, o1, none⟩) (g.q.length - 1) (qc' - 1))) (T0.out.lt.1))
    obtain ⟨W3, hW3⟩ : ∃ W, W2.setCell ⟨z, 6, none⟩ (.slice (some ⟨gq, o1, none⟩) (g.q.length - 1) (qc' - 1)) = W := ⟨_, rfl⟩
    rw [hW3] at T3 C3 ⊢
    clear v6 f6 bz bz1 hr1 c2 e1 hW3
    have v0 := T3.out.b1.c 0 _ rfl; have v1 := T3.out.b1.c 1 _ rfl; have v2 := T3.out.b1.c 2 _ rfl; have v3 := T3.out.b1.c 3 _ rfl; have v4 := T3.out.b1.c 4 _ rfl; have v5 := T3.out.b1.c 5 _ rfl; have v6 := T3.out.b1.c 6 _ rfl; have v7 := T3.out.b1.c 7 _ rfl; have v8 := T3.out.b1.c 8 _ rfl; have v9 := T3.out.b1.c 9 _ rfl; have v10 := T3.out.b1.c 10 _ rfl; have r0 := T3.out.b2.c 0 _ rfl; have r1 := T3.out.b2.c 1 _ rfl; have r2 := T3.out.b2.c 2 _ rfl; have r3 := T3.out.b2.c 3 _ rfl; have r4 := T3.out.b2.c 4 _ rfl; have r5 := T3.out.b2.c 5 _ rfl; have r6 := T3.out.b2.c 6 _ rfl; have r7 := T3.out.b2.c 7 _ rfl; have r8 := T3.out.b2.c 8 _ rfl; have r9 := T3.out.b2.c 9 _ rfl; have r10 := T3.out.b2.c 10 _ rfl; have k0 := T3.out.b2.f 0; have k1 := T3.out.b2.f 1; have k2 := T3.out.b2.f 2; have k3 := T3.out.b2.f 3; have k4 := T3.out.b2.f 4; have k5 := T3.out.b2.f 5; have k6 := T3.out.b2.f 6; have k7 := T3.out.b2.f 7; have k8 := T3.out.b2.f 8; have k9 := T3.out.b2.f 9; have k10 := T3.out.b2.f 10
    have bz := T3.out.lt.1; have bz1 := T3.out.lt.2
    go_wp2_with fail
    clear v0 v1 v2 v3 v4 v5 v6 v7 v8 v9 v10 r0 r1 r2 r3 r4 r5 r6 r7 r8 r9 r10 k0 k1 k2 k3 k4 k5 k6 k7 k8 k9 k10
    have hz' := T0.out.hz
    obtain ⟨q11, qc11⟩ := (T3.out.b2).set11 (.slice (some ⟨lb, 0, none⟩) (nS c t) lc) (.slice (some ⟨fb, 0, none⟩) (nG c t) fc) (.slice (some ⟨mb, 0, none⟩) (nG c t) mc) (.int .i64 (wordsOf c t)) (.slice ca c.cl.length cc) (.int .i64 n) (.slice (some ⟨gq, o1, none⟩) (g.q.length - 1) (qc' - 1)) (.slice (some ⟨go, 0, none⟩) g.ow.length oc') (.slice (some ⟨gd, 0, none⟩) g.di.length dc') (.int .i64 pg) (.int .i64 a) _ rfl
    have q0 := q11.c 0 _ rfl; have q1 := q11.c 1 _ rfl; have q2 := q11.c 2 _ rfl; have q3 := q11.c 3 _ rfl; have q4 := q11.c 4 _ rfl; have q5 := q11.c 5 _ rfl; have q6 := q11.c 6 _ rfl; have q7 := q11.c 7 _ rfl; have q8 := q11.c 8 _ rfl; have q9 := q11.c 9 _ rfl; have q10 := q11.c 10 _ rfl
    refine bodyPost_ret (v := .tuple #[.agg #[.slice (some ⟨lb, 0, none⟩) (nS c t) lc, .slice (some ⟨fb, 0, none⟩) (nG c t) fc, .slice (some ⟨mb, 0, none⟩) (nG c t) mc, .int .i64 (wordsOf c t), .slice ca c.cl.length cc, .int .i64 n, .slice (some ⟨gq, o1, none⟩) (g.q.length - 1) (qc' - 1), .slice (some ⟨go, 0, none⟩) g.ow.length oc', .slice (some ⟨gd, 0, none⟩) g.di.length dc', .int .i64 pg, .int .i64 a], .int .i64 x, .bool true]) (by simp [results, Tryd.results74, go_sem, q0, q1, q2, q3, q4, q5, q6, q7, q8, q9, q10]) rfl ⟨[.slice (some ⟨lb, 0, none⟩) (nS c t) lc, .slice (some ⟨fb, 0, none⟩) (nG c t) fc, .slice (some ⟨mb, 0, none⟩) (nG c t) mc, .int .i64 (wordsOf c t), .slice ca c.cl.length cc, .int .i64 n, .slice (some ⟨gq, o1, none⟩) (g.q.length - 1) (qc' - 1), .slice (some ⟨go, 0, none⟩) g.ow.length oc', .slice (some ⟨gd, 0, none⟩) g.di.length dc', .int .i64 pg, .int .i64 a], rfl, ?_, qc11.over T3.out.ext (fun k e => by omega)⟩
    have C4 := C3.out.chg qc11 T0.out.lt.2
    obtain ⟨gq', qc'', e, m1, m2, _, m3, m4, m5, m6⟩ := own_ints C4.q hpos
    cases e
    have ho := T0.out.ext.size
    have el : g.q.length - 1 = r.length := by rw [HQ.out]; rfl
    refine ⟨lb, lc, fb, fc, mb, mc, ca, cc, _, _, some ⟨go, 0, none⟩, oc', some ⟨gd, 0, none⟩, dc', pg, a, by unfold gvs; rw [el], H.out.made HP.out (qc11.over T3.out.ext (fun k e => by omega)) (HR1.out _ m5) C4.ow C4.di (fun _ x o e => by cases e; omega) (fun x o e => by cases e; have := C4.ob; omega) (fun x o e => by cases e; have := C4.ob; have := C4.lt; omega) (fun e => by cases e) ?_ H.out.pg⟩
    have := nextG_ok H.out.ok
    unfold nextG at this
    rw [HQ.out] at this
    exact this

end Go.Proofs.YtlhajoamebfniaaDoor

/-! commonageref17: Put. -/
namespace Go.Proofs.YtlhajoamebfniaaDoor
open Go.RowKit
variable {P : Nat → Prop} {w w' : World} {lb lc fb fc mb mc cc t n qc oc dc : Nat} {ca qa oa da : Option Addr} {c : Conf} {g g' : GS} {pg a : Int}

theorem CopR.qrow {Q : Nat → Prop} {W W' : World} {B go gd qc' : Nat} {qv : Option Addr} (h : CopR B W g (.slice qv g.q.length qc') go oc gd dc) (hc : Chg Q W W') (hb : ∀ k, Q k → k < B ∨ go ≤ k) :
    At .i64 W' qv g.q ∧ (0 < g.q.length → ∀ x o, qv = some ⟨x, o, none⟩ → B ≤ x) ∧ (qv = none → qc' = 0) := by
  have hq := h.q
  rcases Nat.eq_zero_or_pos g.q.length with e0 | e0
  · have eq : g.q = [] := List.length_eq_zero_iff.1 e0
    refine ⟨by rw [eq]; exact At.nil, fun h => by omega, fun e => ?_⟩
    rcases hq.2 with ⟨e1, _⟩ | ⟨x, cap, cur, e1, _⟩
    · injection e1 with _ _ e3
    · rw [e] at e1; cases e1
  · obtain ⟨x, cap, e, m1, m2, m9, m3, m4, m5, m6⟩ := own_ints hq e0
    injection e with e1 e2 e3
    refine ⟨?_, fun _ y o e' => ?_, fun e' => by rw [e'] at e1; cases e1⟩
    · rw [e1]
      refine m5.chg hc fun b o e' _ q => ?_
      cases e'
      have := h.qb x (by rw [e1]; rfl)
      have := hb x q
      omega
    · rw [e1] at e'; cases e'; exact m1

set_option maxRecDepth 100000 in
set_option maxHeartbeats 16000000 in
theorem ref17_Put {s k : Int} (h : DGrey P w lb fb mb ca c t n qa qc oa da g pg a) (hP : ∀ k, P k → k < w.heap.size) (hr : putG c t n g s = (g', k)) :
    Calls Tryd.prog 76 #[.agg (gvs lb lc fb fc mb mc ca cc c t n (.slice qa g.q.length qc) (.slice oa g.ow.length oc) (.slice da g.di.length dc) pg a).toArray, .int .i64 s] w fun e w' => ∃ V', e = .returned (.tuple #[.agg V'.toArray, .int .i64 k]) ∧ DGr P w' c t n V' g' ∧ Ext w w' := by
  obtain ⟨j0, hj0, jz0, jz1, jz2⟩ := info_parts ginfo_i64
  have H := Lib.hid h; have HP := Lib.hid hP; have HR := Lib.hid hr
  have HH : Hid (∀ r, decide (0 ≤ s ∧ s < (nS c t : Int)) = r → ∀ W, Calls Tryd.prog 13 #[.agg #[.slice (some ⟨lb, 0, none⟩) (nS c t) lc, .slice (some ⟨fb, 0, none⟩) (nG c t) fc, .slice (some ⟨mb, 0, none⟩) (nG c t) mc, .int .i64 (wordsOf c t), .slice ca c.cl.length cc], .int .i64 s] W fun e w' => e = .returned (.bool r) ∧ Ext W w') := Lib.hid fun r hr W => ref09_Has r hr
  clear h hP hr
  obtain ⟨z, hz⟩ : ∃ z, w.heap.size = z := ⟨_, rfl⟩
  have tw := two17 w (gvs lb lc fb fc mb mc ca cc c t n (.slice qa g.q.length qc) (.slice oa g.ow.length oc) (.slice da g.di.length dc) pg a) gnil 33 33 hz
  obtain ⟨W0, hW0⟩ : ∃ W0, (w.alloc (.cells (gvs lb lc fb fc mb mc ca cc c t n (.slice qa g.q.length qc) (.slice oa g.ow.length oc) (.slice da g.di.length dc) pg a).toArray 33)).alloc (.cells gnil.toArray 33) = W0 := ⟨_, rfl⟩
  rw [hW0] at tw
  unfold gvs at tw hW0 ⊢
  unfold gnil at tw hW0
  change (w.alloc (.cells #[_, _, _, _, _, _, _, _, _, _, _] _)).alloc (.cells #[_, _, _, _, _, _, _, _, _, _, _] _) = W0 at hW0
  have T0 := Lib.hid tw
  have bz := tw.lt.1; have bz1 := tw.lt.2
  have v0 := tw.b1.c 0 _ rfl; have v1 := tw.b1.c 1 _ rfl; have v2 := tw.b1.c 2 _ rfl; have v3 := tw.b1.c 3 _ rfl; have v4 := tw.b1.c 4 _ rfl; have v5 := tw.b1.c 5 _ rfl; have v6 := tw.b1.c 6 _ rfl; have v7 := tw.b1.c 7 _ rfl; have v8 := tw.b1.c 8 _ rfl; have v9 := tw.b1.c 9 _ rfl; have v10 := tw.b1.c 10 _ rfl
  clear tw
  show Calls _ _ #[.agg #[_, _, _, _, _, _, _, _, _, _, _], _] _ _
  by_cases hs : 0 ≤ s ∧ s < (nS c t : Int)
  · have HS := Lib.hid hs
    have C1 := Lib.hid (HH.out true (by simpa using hs))
    clear HH hs
    go_enter Tryd.func76, Tryd.ntmps76
    go_wp2_with fail
    refine (C1.out _).mono ?_
    rintro e w1 ⟨rfl, x1⟩
    have T1 := Lib.hid (T0.out.go x1)
    clear v0 v1 v2 v3 v4 v5 v6 v7 v8 v9 v10 bz bz1 C1
    have v0 := T1.out.b1.c 0 _ rfl; have v1 := T1.out.b1.c 1 _ rfl; have v2 := T1.out.b1.c 2 _ rfl; have v3 := T1.out.b1.c 3 _ rfl; have v4 := T1.out.b1.c 4 _ rfl; have v5 := T1.out.b1.c 5 _ rfl; have v6 := T1.out.b1.c 6 _ rfl; have v7 := T1.out.b1.c 7 _ rfl; have v8 := T1.out.b1.c 8 _ rfl; have v9 := T1.out.b1.c 9 _ rfl; have v10 := T1.out.b1.c 10 _ rfl
    have bz := T1.out.lt.1; have bz1 := T1.out.lt.2
    go_wp2_with fail
    refine (ref17_copied (H.out.ext T1.out.ext)).mono ?_
    rintro e w2 ⟨vq, go, oc', gd, dc', rfl, hcp, x2⟩
    have T2 := Lib.hid (T1.out.go x2)
    obtain ⟨qv, qc', rfl, hnb⟩ := newInts_of hcp.q
    clear v0 v1 v2 v3 v4 v5 v6 v7 v8 v9 v10 bz bz1 hnb
    have v0 := T2.out.b1.c 0 _ rfl; have v1 := T2.out.b1.c 1 _ rfl; have v2 := T2.out.b1.c 2 _ rfl; have v3 := T2.out.b1.c 3 _ rfl; have v4 := T2.out.b1.c 4 _ rfl; have v5 := T2.out.b1.c 5 _ rfl; have v6 := T2.out.b1.c 6 _ rfl; have v7 := T2.out.b1.c 7 _ rfl; have v8 := T2.out.b1.c 8 _ rfl; have v9 := T2.out.b1.c 9 _ rfl; have v10 := T2.out.b1.c 10 _ rfl; have f0 := T2.out.b1.f 0; have f1 := T2.out.b1.f 1; have f2 := T2.out.b1.f 2; have f3 := T2.out.b1.f 3; have f4 := T2.out.b1.f 4; have f5 := T2.out.b1.f 5; have f6 := T2.out.b1.f 6; have f7 := T2.out.b1.f 7; have f8 := T2.out.b1.f 8; have f9 := T2.out.b1.f 9; have f10 := T2.out.b1.f 10
    have bz := T2.out.lt.1; have bz1 := T2.out.lt.2
    unfold gvs
    go_upto_region 4 with fail
    clear v0 v1 v2 v3 v4 v5 v6 v7 v8 v9 v10 f0 f1 f2 f3 f4 f5 f6 f7 f8 f9 f10 bz bz1
    refine T2.out.then1 (Q := Code.wp _ _ _ _) ?_
    intro W3 t3 c3
    have T3 := Lib.hid t3; have C3 := Lib.hid (hcp.chg c3 T1.out.lt.1)
    clear t3 c3 hcp x2 x1
    have v5 := T3.out.b1.c 5 _ rfl; have v6 := T3.out.b1.c 6 _ rfl; have f6 := T3.out.b1.f 6
    have bz := T3.out.lt.1; have bz1 := T3.out.lt.2
    have hqn := H.out.ok.ql
    have h64 := H.out.n64
    by_cases hlt : g.q.length < n
    · have t1 : decide (g.q.length < n) = true := by simpa using hlt
      have HL := Lib.hid hlt
      clear hlt
      go_upto_region 5 with fail
      have BL := Lib.hid (show w1.heap.size ≤ W3.heap.size by have := C3.out.ob; have := C3.out.lt; have := C3.out.db; omega)
      go_upto_region 6 with (at_builtin; (refine wpList_append_own _ rfl (.tmp 21) (.tmp 23) 22 rfl w1.heap.size 3 j0 (.int .i64 0) 1 8 Tryd.underlying22 hj0 jz0 jz1 jz2 rfl (by decide) (.slice qv g.q.length qc') g.q.length (ncs .i64 g.q) rfl (own_ext C3.out.q ((Ext.refl W3).alloc _)) ⟨W3.heap.size, 0, none⟩ 1 1 [.int .i64 s] rfl rfl (news1 _ _ _) (one1 rfl) (by unfold maxLen; omega) (by omega) (by have := BL.out; simp; omega) ?_; intro v' w4 hown hgrow hnil; rw [ncs_snoc] at hown; obtain ⟨g4, c4, rfl, m1, m2, m9, m3, m4, m5, m6⟩ := own_ints hown (Nat.succ_pos _); have T4 := Lib.hid ((T3.out.go ((Ext.refl W3).alloc (.cells #[.int .i64 s] 3))).chg (Chg.of_grown hgrow) (fun k e => by have := (C3.out.q.lt k e.symm).1; have := T1.out.lt.2; omega)); have OQ := Lib.hid m5; have M1 := Lib.hid m1; have G4 := Lib.hid hgrow; clear v5 v6 f6 bz bz1 hown hgrow hnil m1 m9 m3 m4 m5 m6; have v6 := T4.out.b1.c 6 _ rfl; have f6 := T4.out.b1.f 6; have bz := T4.out.lt.1; have bz1 := T4.out.lt.2))
      have T5 := Lib.hid (T4.out.set1 (i := 6) (show 6 < 11 by decide) (.slice (some ⟨g4, 0, none⟩) (g.q.length + 1) c4))
      have c5 := (Chg.refl (fun k => k = z) w4).setCell (p := ⟨z, 6, none⟩) (.inl rfl) (.slice (some ⟨g4, 0, none⟩) (g.q.length + 1) c4)
      obtain ⟨W5, hW5⟩ : ∃ W, w4.setCell ⟨z, 6, none⟩ (.slice (some ⟨g4, 0, none⟩) (g.q.length + 1) c4) = W := ⟨_, rfl⟩
      rw [hW5] at T5 c5 ⊢
      have C5 := Lib.hid c5
      clear v6 f6 bz bz1 m2 c5 hW5 t1
      have v0 := T5.out.b1.c 0 _ rfl; have v1 := T5.out.b1.c 1 _ rfl; have v2 := T5.out.b1.c 2 _ rfl; have v3 := T5.out.b1.c 3 _ rfl; have v4 := T5.out.b1.c 4 _ rfl; have v5 := T5.out.b1.c 5 _ rfl; have v6 := T5.out.b1.c 6 _ rfl; have v7 := T5.out.b1.c 7 _ rfl; have v8 := T5.out.b1.c 8 _ rfl; have v9 := T5.out.b1.c 9 _ rfl; have v10 := T5.out.b1.c 10 _ rfl; have r0 := T5.out.b2.c 0 _ rfl; have r1 := T5.out.b2.c 1 _ rfl; have r2 := T5.out.b2.c 2 _ rfl; have r3 := T5.out.b2.c 3 _ rfl; have r4 := T5.out.b2.c 4 _ rfl; have r5 := T5.out.b2.c 5 _ rfl; have r6 := T5.out.b2.c 6 _ rfl; have r7 := T5.out.b2.c 7 _ rfl; have r8 := T5.out.b2.c 8 _ rfl; have r9 := T5.out.b2.c 9 _ rfl; have r10 := T5.out.b2.c 10 _ rfl; have k0 := T5.out.b2.f 0; have k1 := T5.out.b2.f 1; have k2 := T5.out.b2.f 2; have k3 := T5.out.b2.f 3; have k4 := T5.out.b2.f 4; have k5 := T5.out.b2.f 5; have k6 := T5.out.b2.f 6; have k7 := T5.out.b2.f 7; have k8 := T5.out.b2.f 8; have k9 := T5.out.b2.f 9; have k10 := T5.out.b2.f 10
      have bz := T5.out.lt.1; have bz1 := T5.out.lt.2
      go_wp2_with fail
      clear v0 v1 v2 v3 v4 v5 v6 v7 v8 v9 v10 r0 r1 r2 r3 r4 r5 r6 r7 r8 r9 r10 k0 k1 k2 k3 k4 k5 k6 k7 k8 k9 k10
      have hz' := T0.out.hz
      obtain ⟨rfl, rfl⟩ : { g with q := g.q ++ [s] } = g' ∧ 0 = k := by
        have := HR.out
        unfold putG at this
        rw [if_neg (by have := HS.out; omega), if_pos HL.out] at this
        injection this with e1 e2
        exact ⟨e1, e2⟩
      obtain ⟨q11, qc11⟩ := (T5.out.b2).set11 (.slice (some ⟨lb, 0, none⟩) (nS c t) lc) (.slice (some ⟨fb, 0, none⟩) (nG c t) fc) (.slice (some ⟨mb, 0, none⟩) (nG c t) mc) (.int .i64 (wordsOf c t)) (.slice ca c.cl.length cc) (.int .i64 n) (.slice (some ⟨g4, 0, none⟩) (g.q.length + 1) c4) (.slice (some ⟨go, 0, none⟩) g.ow.length oc') (.slice (some ⟨gd, 0, none⟩) g.di.length dc') (.int .i64 pg) (.int .i64 a) _ rfl
      have q0 := q11.c 0 _ rfl; have q1 := q11.c 1 _ rfl; have q2 := q11.c 2 _ rfl; have q3 := q11.c 3 _ rfl; have q4 := q11.c 4 _ rfl; have q5 := q11.c 5 _ rfl; have q6 := q11.c 6 _ rfl; have q7 := q11.c 7 _ rfl; have q8 := q11.c 8 _ rfl; have q9 := q11.c 9 _ rfl; have q10 := q11.c 10 _ rfl
      refine bodyPost_ret (v := .tuple #[.agg #[.slice (some ⟨lb, 0, none⟩) (nS c t) lc, .slice (some ⟨fb, 0, none⟩) (nG c t) fc, .slice (some ⟨mb, 0, none⟩) (nG c t) mc, .int .i64 (wordsOf c t), .slice ca c.cl.length cc, .int .i64 n, .slice (some ⟨g4, 0, none⟩) (g.q.length + 1) c4, .slice (some ⟨go, 0, none⟩) g.ow.length oc', .slice (some ⟨gd, 0, none⟩) g.di.length dc', .int .i64 pg, .int .i64 a], .int .i64 0]) (by simp [results, Tryd.results76, go_sem, q0, q1, q2, q3, q4, q5, q6, q7, q8, q9, q10]) rfl ⟨[.slice (some ⟨lb, 0, none⟩) (nS c t) lc, .slice (some ⟨fb, 0, none⟩) (nG c t) fc, .slice (some ⟨mb, 0, none⟩) (nG c t) mc, .int .i64 (wordsOf c t), .slice ca c.cl.length cc, .int .i64 n, .slice (some ⟨g4, 0, none⟩) (g.q.length + 1) c4, .slice (some ⟨go, 0, none⟩) g.ow.length oc', .slice (some ⟨gd, 0, none⟩) g.di.length dc', .int .i64 pg, .int .i64 a], rfl, ?_, qc11.over T5.out.ext (fun k e => by omega)⟩
      have ok' := putG_ok H.out.ok s
      rw [HR.out] at ok'
      have ho := T1.out.ext.size
      have tl := T1.out.lt.2
      have m1 := M1.out
      have ch : Chg (fun k => some k = Value.ownBlock (.slice qv g.q.length qc') ∨ k = z ∨ k = z + 1) W3 _ := (((Chg.of_ext ((Ext.refl W3).alloc (.cells #[.int .i64 s] 3))).trans ((Chg.of_grown G4.out).mono fun k e => .inl e)).trans (C5.out.mono fun k e => .inr (.inl e))).trans (qc11.mono fun k e => .inr (.inr e))
      have cz := (C5.out.mono (fun k e => .inl e : ∀ k, k = z → (k = z ∨ k = z + 1))).trans (qc11.mono fun k e => .inr e)
      have ob := C3.out.ob; have olt := C3.out.lt
      refine ⟨lb, lc, fb, fc, mb, mc, ca, cc, _, _, some ⟨go, 0, none⟩, oc', some ⟨gd, 0, none⟩, dc', pg, a, by unfold gvs; rw [List.length_append]; rfl, H.out.made HP.out (qc11.over T5.out.ext (fun k e => by omega)) (OQ.out.chg cz (fun b o e _ q => by cases e; omega)) (C3.out.ow.chg ch (fun b o e q => ?_)) (C3.out.di.chg ch (fun b o e q => ?_)) (fun _ x o e => by cases e; omega) (fun x o e => by cases e; omega) (fun x o e => by cases e; omega) (fun e => by cases e) ok' H.out.pg⟩
      · cases e
        rcases q with q | q | q
        · have := C3.out.qb go q.symm; omega
        · omega
        · omega
      · cases e
        rcases q with q | q | q
        · have := C3.out.qb gd q.symm; omega
        · omega
        · omega
    · have t1 : decide (g.q.length < n) = false := by simpa using hlt
      have HL := Lib.hid hlt
      obtain ⟨j, rfl⟩ : ∃ j : Nat, s = j := ⟨s.toNat, by have := HS.out; omega⟩
      have hj : j < nS c t := by have := HS.out; omega
      have SF := slFacts H.out.plan.ok H.out.plan.ti hj
      have ol := H.out.ok.ol; have dl := H.out.ok.dl
      have cl := H.out.plan.l j hj 3 _ rfl
      rw [SF.pg] at cl
      replace cl := T3.out.ext.cell cl
      have hjl : j < g.ow.length := by omega
      have hpl : pgN c t j < g.di.length := by rw [dl]; exact SF.lt
      have co : W3.cell? ⟨go, j, none⟩ = some (.bool (bnth g.ow j)) := by
        obtain ⟨b, o, e, hc⟩ := C3.out.ow j hjl
        cases e; rwa [Nat.zero_add] at hc
      have fo := C3.out.fo j
      have CD : Hid (∀ i, i < g.di.length → W3.cell? ⟨gd, i, none⟩ = some (.bool (bnth g.di i))) := Lib.hid fun i hi => by
        obtain ⟨b, o, e, hc⟩ := C3.out.di i hi
        cases e; rwa [Nat.zero_add] at hc
      have v7 := T3.out.b1.c 7 _ rfl
      have SFH := Lib.hid SF
      clear hlt SF ol dl
      go_upto_region 8 with fail
      have ob := C3.out.ob; have olt := C3.out.lt; have gdl := C3.out.db
      have tl := T1.out.lt.2
      have zg : z + 2 ≤ go := by omega
      have T4 := Lib.hid (T3.out.far (p := ⟨go, j, none⟩) zg (.bool true))
      have cg := (Chg.refl (fun k => k = go) W3).setCell (p := ⟨go, j, none⟩) (.inl rfl) (.bool true)
      have OW4 := Lib.hid (C3.out.ow.set hjl true)
      have CG := Lib.hid cg
      have QV : Hid (∀ W, Chg (fun k => k = go ∨ k = gd ∨ k = z + 1) W3 W → At .i64 W qv g.q ∧ (0 < g.q.length → ∀ x o, qv = some ⟨x, o, none⟩ → w1.heap.size ≤ x) ∧ (qv = none → qc' = 0)) := Lib.hid fun W hc => by
        have hq := C3.out.q
        rcases Nat.eq_zero_or_pos g.q.length with e0 | e0
        · have eq : g.q = [] := List.length_eq_zero_iff.1 e0
          refine ⟨by rw [eq]; exact At.nil, fun h => by omega, fun e => ?_⟩
          rcases hq.2 with ⟨e1, _⟩ | ⟨x, cap, cur, e1, _⟩
          · injection e1 with _ _ e3
          · rw [e] at e1; cases e1
        · obtain ⟨x, cap, e, m1, m2, m9, m3, m4, m5, m6⟩ := own_ints hq e0
          injection e with e1 e2 e3
          refine ⟨?_, fun _ y o e' => ?_, fun e' => by rw [e'] at e1; cases e1⟩
          · rw [e1]
            refine m5.chg hc fun b o e' _ q => ?_
            cases e'
            have := C3.out.qb x (by rw [e1]; rfl)
            omega
          · rw [e1] at e'; cases e'; exact m1
      obtain ⟨W4, hW4⟩ : ∃ W, W3.setCell ⟨go, j, none⟩ (.bool true) = W := ⟨_, rfl⟩
      rw [hW4] at T4 cg CG OW4 ⊢
      obtain ⟨p, hp⟩ : ∃ p, pgN c t j = p := ⟨_, rfl⟩
      have EP := Lib.hid hp
      rw [hp] at cl hpl
      have cd := cg.cell (show ¬ gd = go by omega) (CD.out p hpl)
      have fd := (cg.frozen (p := ⟨gd, p, none⟩) gdl (show ¬ gd = go by omega)).trans (C3.out.fd p)
      have DI4 := Lib.hid (C3.out.di.chg cg (fun b o e q => by cases e; omega))
      have cl : W4.cell? ⟨lb, j * 4 + 3, none⟩ = some (.int .i64 (p : Int)) := by
        have := H.out.plan.l j hj 3 _ rfl
        rw [SFH.out.pg, EP.out] at this
        exact T4.out.ext.cell this
      clear v5 v6 f6 v7 co fo bz bz1 cg hW4 hp t1 CD
      have v0 := T4.out.b1.c 0 _ rfl; have v8 := T4.out.b1.c 8 _ rfl
      have bz := T4.out.lt.1; have bz1 := T4.out.lt.2
      go_region
      have T5 := Lib.hid ((T4.out.far (p := ⟨gd, p, none⟩) (show z + 2 ≤ gd by omega) (.bool true)).go (Ext.refl _).drew)
      have c5 := ((Chg.refl (fun k => k = gd) W4).setCell (p := ⟨gd, p, none⟩) (.inl rfl) (.bool true)).drew
      have DI5 := Lib.hid ((DI4.out.set hpl true).ext (Ext.refl _).drew)
      have OW5 := Lib.hid (OW4.out.chg c5 (fun b o e q => by cases e; omega))
      obtain ⟨W5, hW5⟩ : ∃ W, (W4.setCell ⟨gd, p, none⟩ (.bool true)).drew = W := ⟨_, rfl⟩
      rw [hW5] at T5 c5 DI5 OW5 ⊢
      have C5 := Lib.hid c5
      clear v0 v8 bz bz1 cl cd fd hW5 c5
      have v0 := T5.out.b1.c 0 _ rfl; have v1 := T5.out.b1.c 1 _ rfl; have v2 := T5.out.b1.c 2 _ rfl; have v3 := T5.out.b1.c 3 _ rfl; have v4 := T5.out.b1.c 4 _ rfl; have v5 := T5.out.b1.c 5 _ rfl; have v6 := T5.out.b1.c 6 _ rfl; have v7 := T5.out.b1.c 7 _ rfl; have v8 := T5.out.b1.c 8 _ rfl; have v9 := T5.out.b1.c 9 _ rfl; have v10 := T5.out.b1.c 10 _ rfl; have r0 := T5.out.b2.c 0 _ rfl; have r1 := T5.out.b2.c 1 _ rfl; have r2 := T5.out.b2.c 2 _ rfl; have r3 := T5.out.b2.c 3 _ rfl; have r4 := T5.out.b2.c 4 _ rfl; have r5 := T5.out.b2.c 5 _ rfl; have r6 := T5.out.b2.c 6 _ rfl; have r7 := T5.out.b2.c 7 _ rfl; have r8 := T5.out.b2.c 8 _ rfl; have r9 := T5.out.b2.c 9 _ rfl; have r10 := T5.out.b2.c 10 _ rfl; have k0 := T5.out.b2.f 0; have k1 := T5.out.b2.f 1; have k2 := T5.out.b2.f 2; have k3 := T5.out.b2.f 3; have k4 := T5.out.b2.f 4; have k5 := T5.out.b2.f 5; have k6 := T5.out.b2.f 6; have k7 := T5.out.b2.f 7; have k8 := T5.out.b2.f 8; have k9 := T5.out.b2.f 9; have k10 := T5.out.b2.f 10
      have bz := T5.out.lt.1; have bz1 := T5.out.lt.2
      go_wp2_with fail
      clear v0 v1 v2 v3 v4 v5 v6 v7 v8 v9 v10 r0 r1 r2 r3 r4 r5 r6 r7 r8 r9 r10 k0 k1 k2 k3 k4 k5 k6 k7 k8 k9 k10
      have hz' := T0.out.hz
      obtain ⟨rfl, rfl⟩ : { g with ow := g.ow.set j true, di := g.di.set p true } = g' ∧ 0 = k := by
        have := HR.out
        unfold putG at this
        rw [if_neg (by have := HS.out; omega), if_neg HL.out] at this
        rw [show ((j : Int)).toNat = j from rfl, EP.out] at this
        injection this with e1 e2
        exact ⟨e1, e2⟩
      obtain ⟨q11, qc11⟩ := (T5.out.b2).set11 (.slice (some ⟨lb, 0, none⟩) (nS c t) lc) (.slice (some ⟨fb, 0, none⟩) (nG c t) fc) (.slice (some ⟨mb, 0, none⟩) (nG c t) mc) (.int .i64 (wordsOf c t)) (.slice ca c.cl.length cc) (.int .i64 n) (.slice qv g.q.length qc') (.slice (some ⟨go, 0, none⟩) g.ow.length oc') (.slice (some ⟨gd, 0, none⟩) g.di.length dc') (.int .i64 pg) (.int .i64 a) _ rfl
      have q0 := q11.c 0 _ rfl; have q1 := q11.c 1 _ rfl; have q2 := q11.c 2 _ rfl; have q3 := q11.c 3 _ rfl; have q4 := q11.c 4 _ rfl; have q5 := q11.c 5 _ rfl; have q6 := q11.c 6 _ rfl; have q7 := q11.c 7 _ rfl; have q8 := q11.c 8 _ rfl; have q9 := q11.c 9 _ rfl; have q10 := q11.c 10 _ rfl
      refine bodyPost_ret (v := .tuple #[.agg #[.slice (some ⟨lb, 0, none⟩) (nS c t) lc, .slice (some ⟨fb, 0, none⟩) (nG c t) fc, .slice (some ⟨mb, 0, none⟩) (nG c t) mc, .int .i64 (wordsOf c t), .slice ca c.cl.length cc, .int .i64 n, .slice qv g.q.length qc', .slice (some ⟨go, 0, none⟩) g.ow.length oc', .slice (some ⟨gd, 0, none⟩) g.di.length dc', .int .i64 pg, .int .i64 a], .int .i64 0]) (by simp [results, Tryd.results76, go_sem, q0, q1, q2, q3, q4, q5, q6, q7, q8, q9, q10]) rfl ⟨[.slice (some ⟨lb, 0, none⟩) (nS c t) lc, .slice (some ⟨fb, 0, none⟩) (nG c t) fc, .slice (some ⟨mb, 0, none⟩) (nG c t) mc, .int .i64 (wordsOf c t), .slice ca c.cl.length cc, .int .i64 n, .slice qv g.q.length qc', .slice (some ⟨go, 0, none⟩) g.ow.length oc', .slice (some ⟨gd, 0, none⟩) g.di.length dc', .int .i64 pg, .int .i64 a], rfl, ?_, qc11.over T5.out.ext (fun k e => by omega)⟩
      have ok' := putG_ok H.out.ok (j : Int)
      rw [HR.out] at ok'
      have ho := T1.out.ext.size
      have QA := QV.out _ (((CG.out.mono (fun k e => .inl e : ∀ k, k = go → (k = go ∨ k = gd ∨ k = z + 1))).trans (C5.out.mono fun k e => .inr (.inl e))).trans (qc11.mono fun k e => .inr (.inr e)))
      refine ⟨lb, lc, fb, fc, mb, mc, ca, cc, _, _, some ⟨go, 0, none⟩, oc', some ⟨gd, 0, none⟩, dc', pg, a, by unfold gvs; rw [List.length_set, List.length_set], H.out.made HP.out (qc11.over T5.out.ext (fun k e => by omega)) QA.1 (OW5.out.chg qc11 (fun b o e q => by cases e; omega)) (DI5.out.chg qc11 (fun b o e q => by cases e; omega)) (fun h0 x o e => by have := QA.2.1 h0 x o e; omega) (fun x o e => by cases e; omega) (fun x o e => by cases e; omega) QA.2.2 ok' H.out.pg⟩
  · have HS := Lib.hid hs
    have C1 := Lib.hid (HH.out false (by simpa using hs))
    clear HH hs
    go_enter Tryd.func76, Tryd.ntmps76
    go_wp2_with fail
    refine (C1.out _).mono ?_
    rintro e w1 ⟨rfl, x1⟩
    have T1 := Lib.hid (T0.out.go x1)
    clear v0 v1 v2 v3 v4 v5 v6 v7 v8 v9 v10 bz bz1 C1
    have v0 := T1.out.b1.c 0 _ rfl; have v1 := T1.out.b1.c 1 _ rfl; have v2 := T1.out.b1.c 2 _ rfl; have v3 := T1.out.b1.c 3 _ rfl; have v4 := T1.out.b1.c 4 _ rfl; have v5 := T1.out.b1.c 5 _ rfl; have v6 := T1.out.b1.c 6 _ rfl; have v7 := T1.out.b1.c 7 _ rfl; have v8 := T1.out.b1.c 8 _ rfl; have v9 := T1.out.b1.c 9 _ rfl; have v10 := T1.out.b1.c 10 _ rfl; have r0 := T1.out.b2.c 0 _ rfl; have r1 := T1.out.b2.c 1 _ rfl; have r2 := T1.out.b2.c 2 _ rfl; have r3 := T1.out.b2.c 3 _ rfl; have r4 := T1.out.b2.c 4 _ rfl; have r5 := T1.out.b2.c 5 _ rfl; have r6 := T1.out.b2.c 6 _ rfl; have r7 := T1.out.b2.c 7 _ rfl; have r8 := T1.out.b2.c 8 _ rfl; have r9 := T1.out.b2.c 9 _ rfl; have r10 := T1.out.b2.c 10 _ rfl; have k0 := T1.out.b2.f 0; have k1 := T1.out.b2.f 1; have k2 := T1.out.b2.f 2; have k3 := T1.out.b2.f 3; have k4 := T1.out.b2.f 4; have k5 := T1.out.b2.f 5; have k6 := T1.out.b2.f 6; have k7 := T1.out.b2.f 7; have k8 := T1.out.b2.f 8; have k9 := T1.out.b2.f 9; have k10 := T1.out.b2.f 10
    have bz := T1.out.lt.1; have bz1 := T1.out.lt.2
    go_wp2_with fail
    clear v0 v1 v2 v3 v4 v5 v6 v7 v8 v9 v10 r0 r1 r2 r3 r4 r5 r6 r7 r8 r9 r10 k0 k1 k2 k3 k4 k5 k6 k7 k8 k9 k10
    have hz' := T0.out.hz
    obtain ⟨rfl, rfl⟩ : g = g' ∧ 2 = k := by
      have := HR.out
      unfold putG at this
      rw [if_pos (by have := HS.out; omega)] at this
      injection this with e1 e2
      exact ⟨e1, e2⟩
    obtain ⟨q11, qc11⟩ := (T1.out.b2).set11 (.slice (some ⟨lb, 0, none⟩) (nS c t) lc) (.slice (some ⟨fb, 0, none⟩) (nG c t) fc) (.slice (some ⟨mb, 0, none⟩) (nG c t) mc) (.int .i64 (wordsOf c t)) (.slice ca c.cl.length cc) (.int .i64 n) (.slice qa g.q.length qc) (.slice oa g.ow.length oc) (.slice da g.di.length dc) (.int .i64 pg) (.int .i64 a) _ rfl
    have q0 := q11.c 0 _ rfl; have q1 := q11.c 1 _ rfl; have q2 := q11.c 2 _ rfl; have q3 := q11.c 3 _ rfl; have q4 := q11.c 4 _ rfl; have q5 := q11.c 5 _ rfl; have q6 := q11.c 6 _ rfl; have q7 := q11.c 7 _ rfl; have q8 := q11.c 8 _ rfl; have q9 := q11.c 9 _ rfl; have q10 := q11.c 10 _ rfl
    refine bodyPost_ret (v := .tuple #[.agg #[.slice (some ⟨lb, 0, none⟩) (nS c t) lc, .slice (some ⟨fb, 0, none⟩) (nG c t) fc, .slice (some ⟨mb, 0, none⟩) (nG c t) mc, .int .i64 (wordsOf c t), .slice ca c.cl.length cc, .int .i64 n, .slice qa g.q.length qc, .slice oa g.ow.length oc, .slice da g.di.length dc, .int .i64 pg, .int .i64 a], .int .i64 2]) (by simp [results, Tryd.results76, go_sem, q0, q1, q2, q3, q4, q5, q6, q7, q8, q9, q10]) rfl ⟨[.slice (some ⟨lb, 0, none⟩) (nS c t) lc, .slice (some ⟨fb, 0, none⟩) (nG c t) fc, .slice (some ⟨mb, 0, none⟩) (nG c t) mc, .int .i64 (wordsOf c t), .slice ca c.cl.length cc, .int .i64 n, .slice qa g.q.length qc, .slice oa g.ow.length oc, .slice da g.di.length dc, .int .i64 pg, .int .i64 a], rfl, ⟨lb, lc, fb, fc, mb, mc, ca, cc, qa, qc, oa, oc, da, dc, pg, a, rfl, H.out.over T1.out.ext qc11 (fun k e => by omega)⟩, qc11.over T1.out.ext (fun k e => by omega)⟩

end Go.Proofs.YtlhajoamebfniaaDoor

/-! commonageref17: Walk. (Printed by wip/gen17k.py.) -/
namespace Go.Proofs.YtlhajoamebfniaaDoor
open Go.RowKit
variable {P : Nat → Prop} {w w' : World} {lb lc fb fc mb mc cc t n qc oc dc : Nat} {ca qa oa da : Option Addr} {c : Conf} {g g' : GS} {pg a : Int}

set_option maxRecDepth 100000 in
set_option maxHeartbeats 16000000 in
theorem ref17_Walk {x : Int} {b b2 : Bool} (h : DGrey P w lb fb mb ca c t n qa qc oa da g pg a) (hP : ∀ k, P k → k < w.heap.size) (hr : walkG c t g = (g', x, b, b2)) :
    Calls Tryd.prog 75 #[.agg (gvs lb lc fb fc mb mc ca cc c t n (.slice qa g.q.length qc) (.slice oa g.ow.length oc) (.slice da g.di.length dc) pg a).toArray] w fun e w' => ∃ V', e = .returned (.tuple #[.agg V'.toArray, .int .i64 x, .bool b, .bool b2]) ∧ DGr P w' c t n V' g' ∧ Ext w w' := by
  have H := Lib.hid h; have HP := Lib.hid hP; have HR := Lib.hid hr
  clear h hP hr
  by_cases hw : g.at_ = g.en
  · have hpg : pg = -1 ∧ a = 0 := by
      rcases H.out.pg with ⟨_, h2, h3⟩ | ⟨p, _, _, _, h4, _⟩
      · exact ⟨h2, h3⟩
      · omega
    obtain ⟨rfl, rfl⟩ := hpg
    obtain ⟨z, hz⟩ : ∃ z, w.heap.size = z := ⟨_, rfl⟩
    have tw := two17 w (gvs lb lc fb fc mb mc ca cc c t n (.slice qa g.q.length qc) (.slice oa g.ow.length oc) (.slice da g.di.length dc) (-1) 0) gnil 33 33 hz
    obtain ⟨W0, hW0⟩ : ∃ W0, (w.alloc (.cells (gvs lb lc fb fc mb mc ca cc c t n (.slice qa g.q.length qc) (.slice oa g.ow.length oc) (.slice da g.di.length dc) (-1) 0).toArray 33)).alloc (.cells gnil.toArray 33) = W0 := ⟨_, rfl⟩
    rw [hW0] at tw
    unfold gvs at tw hW0 ⊢
    unfold gnil at tw hW0
    change (w.alloc (.cells #[_, _, _, _, _, _, _, _, _, _, _] _)).alloc (.cells #[_, _, _, _, _, _, _, _, _, _, _] _) = W0 at hW0
    have T0 := Lib.hid tw
    have bz := tw.lt.1; have bz1 := tw.lt.2
    have v0 := tw.b1.c 0 _ rfl; have v1 := tw.b1.c 1 _ rfl; have v2 := tw.b1.c 2 _ rfl; have v3 := tw.b1.c 3 _ rfl; have v4 := tw.b1.c 4 _ rfl; have v5 := tw.b1.c 5 _ rfl; have v6 := tw.b1.c 6 _ rfl; have v7 := tw.b1.c 7 _ rfl; have v8 := tw.b1.c 8 _ rfl; have v9 := tw.b1.c 9 _ rfl; have v10 := tw.b1.c 10 _ rfl
    clear tw
    show Calls _ _ #[.agg #[_, _, _, _, _, _, _, _, _, _, _]] _ _
    obtain ⟨k, hk⟩ : ∃ k : Int, (match fstD g.di with | some p => (p : Int) | none => -1) = k := ⟨_, rfl⟩
    have DC := Lib.hid (ref17_dirty (lc := lc) (fc := fc) (mc := mc) (cc := cc) (oc := oc) (dc := dc) (H.out.ext T0.out.ext) hk)
    have HK := Lib.hid hk; have HW := Lib.hid hw
    unfold gvs at DC
    clear hk hw
    go_enter Tryd.func75, Tryd.ntmps75
    go_wp2_with fail
    refine DC.out.mono ?_
    rintro e w1 ⟨rfl, x1⟩
    have T1 := Lib.hid (T0.out.go x1)
    clear v0 v1 v2 v3 v4 v5 v6 v7 v8 v9 v10 bz bz1 DC x1
    have v0 := T1.out.b1.c 0 _ rfl; have v1 := T1.out.b1.c 1 _ rfl; have v2 := T1.out.b1.c 2 _ rfl; have v3 := T1.out.b1.c 3 _ rfl; have v4 := T1.out.b1.c 4 _ rfl; have v5 := T1.out.b1.c 5 _ rfl; have v6 := T1.out.b1.c 6 _ rfl; have v7 := T1.out.b1.c 7 _ rfl; have v8 := T1.out.b1.c 8 _ rfl; have v9 := T1.out.b1.c 9 _ rfl; have v10 := T1.out.b1.c 10 _ rfl; have r0 := T1.out.b2.c 0 _ rfl; have r1 := T1.out.b2.c 1 _ rfl; have r2 := T1.out.b2.c 2 _ rfl; have r3 := T1.out.b2.c 3 _ rfl; have r4 := T1.out.b2.c 4 _ rfl; have r5 := T1.out.b2.c 5 _ rfl; have r6 := T1.out.b2.c 6 _ rfl; have r7 := T1.out.b2.c 7 _ rfl; have r8 := T1.out.b2.c 8 _ rfl; have r9 := T1.out.b2.c 9 _ rfl; have r10 := T1.out.b2.c 10 _ rfl; have k0 := T1.out.b2.f 0; have k1 := T1.out.b2.f 1; have k2 := T1.out.b2.f 2; have k3 := T1.out.b2.f 3; have k4 := T1.out.b2.f 4; have k5 := T1.out.b2.f 5; have k6 := T1.out.b2.f 6; have k7 := T1.out.b2.f 7; have k8 := T1.out.b2.f 8; have k9 := T1.out.b2.f 9; have k10 := T1.out.b2.f 10
    have bz := T1.out.lt.1; have bz1 := T1.out.lt.2
    by_cases hq : g.q.length = 0
    · have HQ := Lib.hid hq
      have t0 : decide ((0 : Int) < (g.q.length : Int)) = false := decide_eq_false (by omega)
      have t1 : decide (0 < g.q.length) = false := decide_eq_false (by omega)
      cases hf : fstD g.di with
      | none =>
        have HF := Lib.hid hf
        obtain rfl : k = -1 := by have := HK.out; rw [hf] at this; exact this.symm
        clear hf hq
        obtain ⟨rfl, rfl, rfl, rfl⟩ : g = g' ∧ 0 = x ∧ false = b ∧ false = b2 := by
          have := HR.out
          unfold walkG at this
          rw [if_pos HW.out, if_pos HQ.out, HF.out] at this
          injection this with e1 e2; injection e2 with e2 e3; injection e3 with e3 e4
          exact ⟨e1, e2, e3, e4⟩
        go_wp2_with fail
        clear v0 v1 v2 v3 v4 v5 v6 v7 v8 v9 v10 r0 r1 r2 r3 r4 r5 r6 r7 r8 r9 r10 k0 k1 k2 k3 k4 k5 k6 k7 k8 k9 k10
        have hz' := T0.out.hz
        obtain ⟨q11, qc11⟩ := (T1.out.b2).set11 (.slice (some ⟨lb, 0, none⟩) (nS c t) lc) (.slice (some ⟨fb, 0, none⟩) (nG c t) fc) (.slice (some ⟨mb, 0, none⟩) (nG c t) mc) (.int .i64 (wordsOf c t)) (.slice ca c.cl.length cc) (.int .i64 n) (.slice qa g.q.length qc) (.slice oa g.ow.length oc) (.slice da g.di.length dc) (.int .i64 (-1)) (.int .i64 0) _ rfl
        have q0 := q11.c 0 _ rfl; have q1 := q11.c 1 _ rfl; have q2 := q11.c 2 _ rfl; have q3 := q11.c 3 _ rfl; have q4 := q11.c 4 _ rfl; have q5 := q11.c 5 _ rfl; have q6 := q11.c 6 _ rfl; have q7 := q11.c 7 _ rfl; have q8 := q11.c 8 _ rfl; have q9 := q11.c 9 _ rfl; have q10 := q11.c 10 _ rfl
        refine bodyPost_ret (v := .tuple #[.agg #[.slice (some ⟨lb, 0, none⟩) (nS c t) lc, .slice (some ⟨fb, 0, none⟩) (nG c t) fc, .slice (some ⟨mb, 0, none⟩) (nG c t) mc, .int .i64 (wordsOf c t), .slice ca c.cl.length cc, .int .i64 n, .slice qa g.q.length qc, .slice oa g.ow.length oc, .slice da g.di.length dc, .int .i64 (-1), .int .i64 0], .int .i64 0, .bool false, .bool false]) (by simp [results, Tryd.results75, go_sem, q0, q1, q2, q3, q4, q5, q6, q7, q8, q9, q10]) rfl ⟨[.slice (some ⟨lb, 0, none⟩) (nS c t) lc, .slice (some ⟨fb, 0, none⟩) (nG c t) fc, .slice (some ⟨mb, 0, none⟩) (nG c t) mc, .int .i64 (wordsOf c t), .slice ca c.cl.length cc, .int .i64 n, .slice qa g.q.length qc, .slice oa g.ow.length oc, .slice da g.di.length dc, .int .i64 (-1), .int .i64 0], rfl, ⟨lb, lc, fb, fc, mb, mc, ca, cc, qa, qc, oa, oc, da, dc, -1, 0, rfl, H.out.over T1.out.ext qc11 (fun k e => by omega)⟩, qc11.over T1.out.ext (fun k e => by omega)⟩
      | some p =>
        have HF := Lib.hid hf
        obtain rfl : k = p := by have := HK.out; rw [hf] at this; exact this.symm
        have hp : p < nG c t := by rw [← H.out.ok.dl]; exact (fstD_some hf).1
        have HPN := Lib.hid hp
        clear hf hq hp
        have tp : decide ((p : Int) < 0) = false := by simp
        go_wp2_with fail
        refine (ref17_copied (H.out.ext T1.out.ext)).mono ?_
        rintro e w2 ⟨vq, go0, oc0, gd0, dc0, rfl, hcp, x2⟩
        have T2 := Lib.hid (T1.out.go x2)
        obtain ⟨qv0, qc0, rfl, hnb⟩ := newInts_of hcp.q
        clear v0 v1 v2 v3 v4 v5 v6 v7 v8 v9 v10 r0 r1 r2 r3 r4 r5 r6 r7 r8 r9 r10 k0 k1 k2 k3 k4 k5 k6 k7 k8 k9 k10 bz bz1 hnb
        have v0 := T2.out.b1.c 0 _ rfl; have v1 := T2.out.b1.c 1 _ rfl; have v2 := T2.out.b1.c 2 _ rfl; have v3 := T2.out.b1.c 3 _ rfl; have v4 := T2.out.b1.c 4 _ rfl; have v5 := T2.out.b1.c 5 _ rfl; have v6 := T2.out.b1.c 6 _ rfl; have v7 := T2.out.b1.c 7 _ rfl; have v8 := T2.out.b1.c 8 _ rfl; have v9 := T2.out.b1.c 9 _ rfl; have v10 := T2.out.b1.c 10 _ rfl; have f0 := T2.out.b1.f 0; have f1 := T2.out.b1.f 1; have f2 := T2.out.b1.f 2; have f3 := T2.out.b1.f 3; have f4 := T2.out.b1.f 4; have f5 := T2.out.b1.f 5; have f6 := T2.out.b1.f 6; have f7 := T2.out.b1.f 7; have f8 := T2.out.b1.f 8; have f9 := T2.out.b1.f 9; have f10 := T2.out.b1.f 10
        have bz := T2.out.lt.1; have bz1 := T2.out.lt.2
        unfold gvs
        go_upto_region 6 with fail
        clear v0 v1 v2 v3 v4 v5 v6 v7 v8 v9 v10 f0 f1 f2 f3 f4 f5 f6 f7 f8 f9 f10 bz bz1
        refine T2.out.then1 (Q := Code.wp _ _ _ _) ?_
        intro W3 t3 c3
        have T3 := Lib.hid t3; have C3 := Lib.hid (hcp.chg c3 T1.out.lt.1)
        clear t3 c3 hcp x2
        have v8 := T3.out.b1.c 8 _ rfl
        have bz := T3.out.lt.1; have bz1 := T3.out.lt.2
        have hpl : p < g.di.length := by rw [H.out.ok.dl]; exact HPN.out
        have cd : W3.cell? ⟨gd0, p, none⟩ = some (.bool (bnth g.di p)) := by
          obtain ⟨b, o, e, hc⟩ := C3.out.di p hpl
          cases e; rwa [Nat.zero_add] at hc
        have fd := C3.out.fd p
        go_upto_region 7 with fail
        have ob := C3.out.ob; have olt := C3.out.lt
        have tl := T1.out.lt.2
        have T4 := Lib.hid (T3.out.far (p := ⟨gd0, p, none⟩) (show z + 2 ≤ gd0 by omega) (.bool false))
        have c4 := (Chg.refl (fun k => k = gd0) W3).setCell (p := ⟨gd0, p, none⟩) (.inl rfl) (.bool false)
        have DI4 := Lib.hid (C3.out.di.set hpl false)
        have OW4 := Lib.hid (C3.out.ow.chg c4 (fun b o e q => by cases e; omega))
        obtain ⟨W4, hW4⟩ : ∃ W, W3.setCell ⟨gd0, p, none⟩ (.bool false) = W := ⟨_, rfl⟩
        rw [hW4] at T4 c4 OW4 DI4 ⊢
        have C4 := Lib.hid c4
        clear v8 cd fd bz bz1 hW4 c4 hpl
        have v9 := T4.out.b1.c 9 _ rfl; have f9 := T4.out.b1.f 9; have v10 := T4.out.b1.c 10 _ rfl; have f10 := T4.out.b1.f 10
        have bz := T4.out.lt.1; have bz1 := T4.out.lt.2
        go_upto_region 9 with fail
        obtain ⟨F, hF⟩ : ∃ F, fsN c t p = F := ⟨_, rfl⟩
        obtain ⟨A, hA0⟩ : ∃ A : Nat, (A : Int) = 0 := ⟨0, rfl⟩
        obtain ⟨g1, hg1⟩ : ∃ g1, turnG c t g p = g1 := ⟨_, rfl⟩
        have pf := (pgFacts H.out.plan.ok H.out.plan.ti HPN.out).pos
        have EF := Lib.hid hF
        have EA : Hid (g1.at_ = F + A) := Lib.hid (by rw [← hg1, ← hF]; show fsN c t p = _; omega)
        have E3 : Hid (g1.en = F + mnN c t p) := Lib.hid (by rw [← hg1, ← hF]; rfl)
        have HAM : Hid (A < mnN c t p) := Lib.hid (by omega)
        have HNE : Hid (¬ g1.at_ = g1.en) := Lib.hid (by rw [EA.out, E3.out]; omega)
        have HS1 : Hid (stepG g1 = (g', x, b, b2)) := Lib.hid (by
          have := HR.out
          unfold walkG at this
          rw [if_pos HW.out, if_pos HQ.out, HF.out] at this
          rw [← hg1]; exact this)
        have G1 := Lib.hid hg1
        have T1' : Hid (Two17 w ((W4.setCell ⟨z, 9, none⟩ (.int .i64 (p : Int))).setCell ⟨z, 10, none⟩ (.int .i64 0)) z [.slice (some ⟨lb, 0, none⟩) (nS c t) lc, .slice (some ⟨fb, 0, none⟩) (nG c t) fc, .slice (some ⟨mb, 0, none⟩) (nG c t) mc, .int .i64 (wordsOf c t), .slice ca c.cl.length cc, .int .i64 n, .slice qv0 g1.q.length qc0, .slice (some ⟨go0, 0, none⟩) g1.ow.length oc0, .slice (some ⟨gd0, 0, none⟩) g1.di.length dc0, .int .i64 (p : Int), .int .i64 (A : Int)] gnil) := Lib.hid (by
          rw [hA0, ← hg1, show (turnG c t g p).di.length = g.di.length from List.length_set ..]
          exact (T4.out.set1 (i := 9) (show 9 < 11 by decide) (.int .i64 (p : Int))).set1 (i := 10) (show 10 < 11 by decide) (.int .i64 0))
        have c5 := ((Chg.refl (fun k => k = z) W4).setCell (p := ⟨z, 9, none⟩) (.inl rfl) (.int .i64 (p : Int))).setCell (p := ⟨z, 10, none⟩) (.inl rfl) (.int .i64 0)
        obtain ⟨W5, hW5⟩ : ∃ W, (W4.setCell ⟨z, 9, none⟩ (.int .i64 (p : Int))).setCell ⟨z, 10, none⟩ (.int .i64 0) = W := ⟨_, rfl⟩
        rw [hW5] at T1' c5 ⊢
        have ho := T1.out.ext.size
        have QA := C3.out.qrow ((C4.out.mono (fun k e => .inr e : ∀ k, k = gd0 → (k = z ∨ k = gd0))).trans (c5.mono fun k e => .inl e)) (fun k e => by omega)
        have hz' := T0.out.hz
        have H1 : Hid (DGrey P W5 lb fb mb ca c t n qv0 qc0 (some ⟨go0, 0, none⟩) (some ⟨gd0, 0, none⟩) g1 (p : Int) (A : Int)) := Lib.hid (by
          have ok1 := (turnG_ok H.out.plan.ok H.out.plan.ti H.out.ok HPN.out).1
          have pg1 : PgG c t (turnG c t g p) (p : Int) (A : Int) := .inr ⟨p, HPN.out, rfl, Nat.le_refl _, by show fsN c t p < fsN c t p + mnN c t p; omega, rfl, by show (A : Int) = (fsN c t p : Int) - fsN c t p; omega⟩
          rw [← hg1]
          exact H.out.made HP.out T1'.out.ext QA.1 (OW4.out.chg c5 (fun b o e q => by cases e; omega)) (DI4.out.chg c5 (fun b o e q => by cases e; omega)) (fun h0 x o e => by have := QA.2.1 h0 x o e; omega) (fun x o e => by cases e; omega) (fun x o e => by cases e; omega) QA.2.2 ok1 pg1)
        have hp := HPN.out
        clear T1 T2 T3 T4 C3 C4 OW4 DI4 QA c5 hW5 hF hA0 hg1 pf v9 v10 f9 f10 bz bz1 ob olt tl ho hz'
        have T1 := T1'
        clear T1'
        have v0 := T1.out.b1.c 0 _ rfl; have v1 := T1.out.b1.c 1 _ rfl; have v2 := T1.out.b1.c 2 _ rfl; have v3 := T1.out.b1.c 3 _ rfl; have v4 := T1.out.b1.c 4 _ rfl; have v5 := T1.out.b1.c 5 _ rfl; have v6 := T1.out.b1.c 6 _ rfl; have v7 := T1.out.b1.c 7 _ rfl; have v8 := T1.out.b1.c 8 _ rfl; have v9 := T1.out.b1.c 9 _ rfl; have v10 := T1.out.b1.c 10 _ rfl
        have bz := T1.out.lt.1; have bz1 := T1.out.lt.2
        go_wp2_with fail
        obtain ⟨M, hM⟩ : ∃ M, mnN c t p = M := ⟨_, rfl⟩
        have EM := Lib.hid hM
        have pf := pgFacts H.out.plan.ok H.out.plan.ti hp
        have f1 := pf.pos; have f2 := pf.le
        have sle := H.out.plan.ok.nS_le H.out.plan.ti
        have ha := HAM.out
        rw [EF.out] at f2; rw [hM] at f1 f2 ha
        have CF : Hid (w.cell? ⟨fb, p, none⟩ = some (.int .i64 (F : Int))) := Lib.hid (by
          obtain ⟨b, o, e, hc⟩ := H.out.plan.f p (by simpa [firsts] using hp)
          cases e
          have e5 : nth (firsts c t (nG c t)) p = (F : Int) := by
            rw [← EF.out, ← pf.fs]; simp [firsts, nth, List.getD, hp]
          rw [e5, Nat.zero_add] at hc; exact hc)
        have CM : Hid (w.cell? ⟨mb, p, none⟩ = some (.int .i64 (M : Int))) := Lib.hid (by
          obtain ⟨b, o, e, hc⟩ := H.out.plan.m p (by simpa [manys] using hp)
          cases e
          have e5 : nth (manys c t (nG c t)) p = (M : Int) := by
            rw [← hM, ← pf.mn]; simp [manys, nth, List.getD, hp]
          rw [e5, Nat.zero_add] at hc; exact hc)
        have lo : F + A < g1.ow.length := by rw [H1.out.ok.ol]; omega
        have A64 : F + A ≤ 16384 := by omega
        have M64 : F + M ≤ 16384 := by omega
        have NG := Lib.hid hp
        clear pf hM sle f2 ha
        refine (ref17_copied H1.out).mono ?_
        rintro e w2 ⟨vq, go, oc', gd, dc', rfl, hcp, x2⟩
        have T2 := Lib.hid (T1.out.go x2)
        obtain ⟨qv, qc', rfl, hnb⟩ := newInts_of hcp.q
        clear v0 v1 v2 v3 v4 v5 v6 v7 v8 v9 v10 bz bz1 hnb
        have v0 := T2.out.b1.c 0 _ rfl; have v1 := T2.out.b1.c 1 _ rfl; have v2 := T2.out.b1.c 2 _ rfl; have v3 := T2.out.b1.c 3 _ rfl; have v4 := T2.out.b1.c 4 _ rfl; have v5 := T2.out.b1.c 5 _ rfl; have v6 := T2.out.b1.c 6 _ rfl; have v7 := T2.out.b1.c 7 _ rfl; have v8 := T2.out.b1.c 8 _ rfl; have v9 := T2.out.b1.c 9 _ rfl; have v10 := T2.out.b1.c 10 _ rfl; have f0 := T2.out.b1.f 0; have f1 := T2.out.b1.f 1; have f2 := T2.out.b1.f 2; have f3 := T2.out.b1.f 3; have f4 := T2.out.b1.f 4; have f5 := T2.out.b1.f 5; have f6 := T2.out.b1.f 6; have f7 := T2.out.b1.f 7; have f8 := T2.out.b1.f 8; have f9 := T2.out.b1.f 9; have f10 := T2.out.b1.f 10
        have bz := T2.out.lt.1; have bz1 := T2.out.lt.2
        unfold gvs
        go_upto_region 10 with fail
        clear v0 v1 v2 v3 v4 v5 v6 v7 v8 v9 v10 f0 f1 f2 f3 f4 f5 f6 f7 f8 f9 f10 bz bz1
        refine T2.out.then1 (Q := Code.wp _ _ _ _) ?_
        intro W3 t3 c3
        have T3 := Lib.hid t3; have C3 := Lib.hid (hcp.chg c3 T1.out.lt.1)
        clear t3 c3 hcp x2
        have v1 := T3.out.b1.c 1 _ rfl; have v9 := T3.out.b1.c 9 _ rfl; have v10 := T3.out.b1.c 10 _ rfl
        have bz := T3.out.lt.1; have bz1 := T3.out.lt.2
        have cf := T3.out.ext.cell CF.out
        have co : W3.cell? ⟨go, F + A, none⟩ = some (.bool (bnth g1.ow (F + A))) := by
          obtain ⟨b, o, e, hc⟩ := C3.out.ow (F + A) lo
          cases e; rwa [Nat.zero_add] at hc
        have pn : p < nG c t := NG.out
        have d1 := fun d os => cell_regrown v1 d os; have d9 := fun d os => cell_regrown v9 d os; have d10 := fun d os => cell_regrown v10 d os; have df := fun d os => cell_regrown cf d os
        refine wp_region_quiet_below (by kernel_rfl) (by kernel_rfl) ?_
        repeat (any_goals (first | go_big_quiet_step (fail) | quiet_step (fail)))
        refine wpQuiet_nil ?_
        intro _ hw'
        obtain ⟨⟨dq, osq⟩, hw''⟩ := hw'
        obtain ⟨WQ, hWQ⟩ := grown_ex hw''
        have xq := hWQ.2
        obtain rfl := hWQ.1
        clear hw'' hWQ
        have T4 := Lib.hid (T3.out.go xq); have C4 := Lib.hid (C3.out.go xq)
        replace co := xq.cell co
        have fo := C4.out.fo (F + A)
        clear d1 d9 d10 df v1 v9 v10 cf xq bz bz1
        have v3 := T4.out.b1.c 7 _ rfl
        have v10 := T4.out.b1.c 10 _ rfl
        have bz := T4.out.lt.1; have bz1 := T4.out.lt.2
        go_upto_region 13 with fail
        have ob := C4.out.ob; have olt := C4.out.lt
        have tl := T1.out.lt.2
        have T5 := Lib.hid (T4.out.far (p := ⟨go, F + A, none⟩) (show z + 2 ≤ go by omega) (.bool false))
        have c5 := (Chg.refl (fun k => k = go) WQ).setCell (p := ⟨go, F + A, none⟩) (.inl rfl) (.bool false)
        have OW5 := Lib.hid (C4.out.ow.set lo false)
        have DI5 := Lib.hid (C4.out.di.chg c5 (fun b o e q => by cases e; omega))
        obtain ⟨W5, hW5⟩ : ∃ W, WQ.setCell ⟨go, F + A, none⟩ (.bool false) = W := ⟨_, rfl⟩
        rw [hW5] at T5 c5 OW5 DI5 ⊢
        have C5 := Lib.hid c5
        clear v3 v10 co fo bz bz1 hW5 c5
        have v10 := T5.out.b1.c 10 _ rfl; have f10 := T5.out.b1.f 10; have bz := T5.out.lt.1; have bz1 := T5.out.lt.2
        go_upto_region 14 with fail
        have T6 := Lib.hid (T5.out.set1 (i := 10) (show 10 < 11 by decide) (.int .i64 ((A : Int) + 1)))
        have c6 := (Chg.refl (fun k => k = z) W5).setCell (p := ⟨z, 10, none⟩) (.inl rfl) (.int .i64 ((A : Int) + 1))
        obtain ⟨W6, hW6⟩ : ∃ W, W5.setCell ⟨z, 10, none⟩ (.int .i64 ((A : Int) + 1)) = W := ⟨_, rfl⟩
        rw [hW6] at T6 c6 ⊢
        have C6 := Lib.hid c6
        clear v10 f10 bz bz1 c6 hW6
        have v2 := T6.out.b1.c 2 _ rfl; have v9 := T6.out.b1.c 9 _ rfl; have v10 := T6.out.b1.c 10 _ rfl
        have bz := T6.out.lt.1; have bz1 := T6.out.lt.2
        have cm := T6.out.ext.cell CM.out
        have d2 := fun d os => cell_regrown v2 d os; have d9 := fun d os => cell_regrown v9 d os; have d10 := fun d os => cell_regrown v10 d os; have dm := fun d os => cell_regrown cm d os
        refine wp_region_quiet_below (by kernel_rfl) (by kernel_rfl) ?_
        repeat (any_goals (first | go_big_quiet_step (fail) | quiet_step (fail)))
        refine wpQuiet_nil ?_
        intro _ hw'
        obtain ⟨⟨dq, osq⟩, hw''⟩ := hw'
        obtain ⟨WQ, hWQ⟩ := grown_ex hw''
        have xq := hWQ.2
        obtain rfl := hWQ.1
        clear hw'' hWQ
        have T7 := Lib.hid (T6.out.go xq); have C7 := Lib.hid (C6.out.trans (Chg.of_ext xq))
        clear d2 d9 d10 dm v2 v9 v10 cm xq bz bz1
        obtain ⟨r, hrr⟩ : ∃ r, bnth g1.ow (F + A) = r := ⟨_, rfl⟩
        have ER := Lib.hid hrr
        rw [hrr]
        clear hrr
        obtain ⟨g2, hg2⟩ : ∃ g2 : GS, { g1 with at_ := g1.at_ + 1, ow := g1.ow.set (F + A) false } = g2 := ⟨_, rfl⟩
        obtain ⟨rfl, rfl, rfl, rfl⟩ : g2 = g' ∧ (if r then ((F + A : Nat) : Int) else 0) = x ∧ r = b ∧ true = b2 := by
          have := HS1.out
          unfold stepG at this
          rw [EA.out, ER.out] at this
          injection this with e1 e2; injection e2 with e2 e3; injection e3 with e3 e4
          exact ⟨by rw [← hg2, ← e1, EA.out], e2, e3, e4⟩
        have ok' := Lib.hid (show GOk c t n g2 by
          have := stepG_ok H1.out.ok HNE.out
          rw [HS1.out] at this; exact this)
        have G2 := Lib.hid hg2
        clear hg2
        have pn : p < nG c t := NG.out
        by_cases hm : A + 1 = M
        · have te : ((A : Int) + 1 == (M : Int)) = true := by rw [beq_iff_eq]; omega
          have PK := Lib.hid (show PgG c t g2 (-1) 0 from .inl ⟨by rw [← G2.out]; show g1.at_ + 1 = g1.en; have := EA.out; have := E3.out; have := EM.out; omega, rfl, rfl⟩)
          clear hm
          have f9 := T7.out.b1.f 9; have f10 := T7.out.b1.f 10; have v9 := T7.out.b1.c 9 _ rfl; have v10 := T7.out.b1.c 10 _ rfl
          have bz := T7.out.lt.1; have bz1 := T7.out.lt.2
          go_upto_region 17 with fail
          have T8 := Lib.hid ((T7.out.set1 (i := 9) (show 9 < 11 by decide) (.int .i64 (-1))).set1 (i := 10) (show 10 < 11 by decide) (.int .i64 0))
          have c8 := ((Chg.refl (fun k => k = z) WQ).setCell (p := ⟨z, 9, none⟩) (.inl rfl) (.int .i64 (-1))).setCell (p := ⟨z, 10, none⟩) (.inl rfl) (.int .i64 0)
          obtain ⟨W8, hW8⟩ : ∃ W, (WQ.setCell ⟨z, 9, none⟩ (.int .i64 (-1))).setCell ⟨z, 10, none⟩ (.int .i64 0) = W := ⟨_, rfl⟩
          rw [hW8] at T8 c8 ⊢
          have C8 := Lib.hid (C7.out.trans c8)
          clear v9 v10 f9 f10 bz bz1 c8 hW8
          have v0 := T8.out.b1.c 0 _ rfl; have v1 := T8.out.b1.c 1 _ rfl; have v2 := T8.out.b1.c 2 _ rfl; have v3 := T8.out.b1.c 3 _ rfl; have v4 := T8.out.b1.c 4 _ rfl; have v5 := T8.out.b1.c 5 _ rfl; have v6 := T8.out.b1.c 6 _ rfl; have v7 := T8.out.b1.c 7 _ rfl; have v8 := T8.out.b1.c 8 _ rfl; have v9 := T8.out.b1.c 9 _ rfl; have v10 := T8.out.b1.c 10 _ rfl; have r0 := T8.out.b2.c 0 _ rfl; have r1 := T8.out.b2.c 1 _ rfl; have r2 := T8.out.b2.c 2 _ rfl; have r3 := T8.out.b2.c 3 _ rfl; have r4 := T8.out.b2.c 4 _ rfl; have r5 := T8.out.b2.c 5 _ rfl; have r6 := T8.out.b2.c 6 _ rfl; have r7 := T8.out.b2.c 7 _ rfl; have r8 := T8.out.b2.c 8 _ rfl; have r9 := T8.out.b2.c 9 _ rfl; have r10 := T8.out.b2.c 10 _ rfl; have k0 := T8.out.b2.f 0; have k1 := T8.out.b2.f 1; have k2 := T8.out.b2.f 2; have k3 := T8.out.b2.f 3; have k4 := T8.out.b2.f 4; have k5 := T8.out.b2.f 5; have k6 := T8.out.b2.f 6; have k7 := T8.out.b2.f 7; have k8 := T8.out.b2.f 8; have k9 := T8.out.b2.f 9; have k10 := T8.out.b2.f 10
          have bz := T8.out.lt.1; have bz1 := T8.out.lt.2
          cases r
          · go_wp2_with fail
            clear v0 v1 v2 v3 v4 v5 v6 v7 v8 v9 v10 r0 r1 r2 r3 r4 r5 r6 r7 r8 r9 r10 k0 k1 k2 k3 k4 k5 k6 k7 k8 k9 k10
            have hz' := T0.out.hz
            have G := G2.out
            subst G
            obtain ⟨q11, qc11⟩ := (T8.out.b2).set11 (.slice (some ⟨lb, 0, none⟩) (nS c t) lc) (.slice (some ⟨fb, 0, none⟩) (nG c t) fc) (.slice (some ⟨mb, 0, none⟩) (nG c t) mc) (.int .i64 (wordsOf c t)) (.slice ca c.cl.length cc) (.int .i64 n) (.slice qv g1.q.length qc') (.slice (some ⟨go, 0, none⟩) g1.ow.length oc') (.slice (some ⟨gd, 0, none⟩) g1.di.length dc') (.int .i64 (-1)) (.int .i64 0) _ rfl
            have q0 := q11.c 0 _ rfl; have q1 := q11.c 1 _ rfl; have q2 := q11.c 2 _ rfl; have q3 := q11.c 3 _ rfl; have q4 := q11.c 4 _ rfl; have q5 := q11.c 5 _ rfl; have q6 := q11.c 6 _ rfl; have q7 := q11.c 7 _ rfl; have q8 := q11.c 8 _ rfl; have q9 := q11.c 9 _ rfl; have q10 := q11.c 10 _ rfl
            refine bodyPost_ret (v := .tuple #[.agg #[.slice (some ⟨lb, 0, none⟩) (nS c t) lc, .slice (some ⟨fb, 0, none⟩) (nG c t) fc, .slice (some ⟨mb, 0, none⟩) (nG c t) mc, .int .i64 (wordsOf c t), .slice ca c.cl.length cc, .int .i64 n, .slice qv g1.q.length qc', .slice (some ⟨go, 0, none⟩) g1.ow.length oc', .slice (some ⟨gd, 0, none⟩) g1.di.length dc', .int .i64 (-1), .int .i64 0], .int .i64 0, .bool false, .bool true]) (by simp [results, Tryd.results75, go_sem, q0, q1, q2, q3, q4, q5, q6, q7, q8, q9, q10]) rfl ⟨[.slice (some ⟨lb, 0, none⟩) (nS c t) lc, .slice (some ⟨fb, 0, none⟩) (nG c t) fc, .slice (some ⟨mb, 0, none⟩) (nG c t) mc, .int .i64 (wordsOf c t), .slice ca c.cl.length cc, .int .i64 n, .slice qv g1.q.length qc', .slice (some ⟨go, 0, none⟩) g1.ow.length oc', .slice (some ⟨gd, 0, none⟩) g1.di.length dc', .int .i64 (-1), .int .i64 0], rfl, ?_, qc11.over T8.out.ext (fun k e => by omega)⟩
            have ho := T1.out.ext.size
            have cz := C8.out
            have QA := C4.out.qrow (((C5.out.mono (fun k e => .inr (.inr e) : ∀ k, k = go → (k = z ∨ k = z + 1 ∨ k = go))).trans (cz.mono (fun k e => .inl e))).trans (qc11.mono fun k e => .inr (.inl e))) (fun k e => by omega)
            have cy := (cz.mono (fun k e => .inl e : ∀ k, k = z → (k = z ∨ k = z + 1))).trans (qc11.mono fun k e => .inr e)
            exact ⟨lb, lc, fb, fc, mb, mc, ca, cc, _, _, some ⟨go, 0, none⟩, oc', some ⟨gd, 0, none⟩, dc', _, _, by unfold gvs; rw [List.length_set], H.out.made HP.out (qc11.over T8.out.ext (fun k e => by omega)) QA.1 (OW5.out.chg cy (fun b o e q => by cases e; omega)) (DI5.out.chg cy (fun b o e q => by cases e; omega)) (fun h0 x o e => by have := QA.2.1 h0 x o e; omega) (fun x o e => by cases e; omega) (fun x o e => by cases e; omega) QA.2.2 ok'.out PK.out⟩
          · go_wp2_with fail
            clear v0 v1 v2 v3 v4 v5 v6 v7 v8 v9 v10 r0 r1 r2 r3 r4 r5 r6 r7 r8 r9 r10 k0 k1 k2 k3 k4 k5 k6 k7 k8 k9 k10
            have hz' := T0.out.hz
            have G := G2.out
            subst G
            obtain ⟨q11, qc11⟩ := (T8.out.b2).set11 (.slice (some ⟨lb, 0, none⟩) (nS c t) lc) (.slice (some ⟨fb, 0, none⟩) (nG c t) fc) (.slice (some ⟨mb, 0, none⟩) (nG c t) mc) (.int .i64 (wordsOf c t)) (.slice ca c.cl.length cc) (.int .i64 n) (.slice qv g1.q.length qc') (.slice (some ⟨go, 0, none⟩) g1.ow.length oc') (.slice (some ⟨gd, 0, none⟩) g1.di.length dc') (.int .i64 (-1)) (.int .i64 0) _ rfl
            have q0 := q11.c 0 _ rfl; have q1 := q11.c 1 _ rfl; have q2 := q11.c 2 _ rfl; have q3 := q11.c 3 _ rfl; have q4 := q11.c 4 _ rfl; have q5 := q11.c 5 _ rfl; have q6 := q11.c 6 _ rfl; have q7 := q11.c 7 _ rfl; have q8 := q11.c 8 _ rfl; have q9 := q11.c 9 _ rfl; have q10 := q11.c 10 _ rfl
            refine bodyPost_ret (v := .tuple #[.agg #[.slice (some ⟨lb, 0, none⟩) (nS c t) lc, .slice (some ⟨fb, 0, none⟩) (nG c t) fc, .slice (some ⟨mb, 0, none⟩) (nG c t) mc, .int .i64 (wordsOf c t), .slice ca c.cl.length cc, .int .i64 n, .slice qv g1.q.length qc', .slice (some ⟨go, 0, none⟩) g1.ow.length oc', .slice (some ⟨gd, 0, none⟩) g1.di.length dc', .int .i64 (-1), .int .i64 0], .int .i64 ((F : Int) + (A : Int)), .bool true, .bool true]) (by simp [results, Tryd.results75, go_sem, q0, q1, q2, q3, q4, q5, q6, q7, q8, q9, q10]) rfl ⟨[.slice (some ⟨lb, 0, none⟩) (nS c t) lc, .slice (some ⟨fb, 0, none⟩) (nG c t) fc, .slice (some ⟨mb, 0, none⟩) (nG c t) mc, .int .i64 (wordsOf c t), .slice ca c.cl.length cc, .int .i64 n, .slice qv g1.q.length qc', .slice (some ⟨go, 0, none⟩) g1.ow.length oc', .slice (some ⟨gd, 0, none⟩) g1.di.length dc', .int .i64 (-1), .int .i64 0], by simp, ?_, qc11.over T8.out.ext (fun k e => by omega)⟩
            have ho := T1.out.ext.size
            have cz := C8.out
            have QA := C4.out.qrow (((C5.out.mono (fun k e => .inr (.inr e) : ∀ k, k = go → (k = z ∨ k = z + 1 ∨ k = go))).trans (cz.mono (fun k e => .inl e))).trans (qc11.mono fun k e => .inr (.inl e))) (fun k e => by omega)
            have cy := (cz.mono (fun k e => .inl e : ∀ k, k = z → (k = z ∨ k = z + 1))).trans (qc11.mono fun k e => .inr e)
            exact ⟨lb, lc, fb, fc, mb, mc, ca, cc, _, _, some ⟨go, 0, none⟩, oc', some ⟨gd, 0, none⟩, dc', _, _, by unfold gvs; rw [List.length_set], H.out.made HP.out (qc11.over T8.out.ext (fun k e => by omega)) QA.1 (OW5.out.chg cy (fun b o e q => by cases e; omega)) (DI5.out.chg cy (fun b o e q => by cases e; omega)) (fun h0 x o e => by have := QA.2.1 h0 x o e; omega) (fun x o e => by cases e; omega) (fun x o e => by cases e; omega) QA.2.2 ok'.out PK.out⟩
        · have te : ((A : Int) + 1 == (M : Int)) = false := by rw [beq_eq_false_iff_ne]; omega
          have PK := Lib.hid (show PgG c t g2 (p : Int) ((A : Int) + 1) from .inr ⟨p, NG.out, rfl, by rw [← G2.out]; show _ ≤ g1.at_ + 1; have := EA.out; have := EF.out; omega, by rw [← G2.out]; show g1.at_ + 1 < g1.en; have := EA.out; have := E3.out; have := EM.out; have := HAM.out; omega, by rw [← G2.out]; show g1.en = _; have := E3.out; have := EF.out; omega, by rw [← G2.out]; show _ = ((g1.at_ + 1 : Nat) : Int) - _; have := EA.out; have := EF.out; omega⟩)
          clear hm
          have v0 := T7.out.b1.c 0 _ rfl; have v1 := T7.out.b1.c 1 _ rfl; have v2 := T7.out.b1.c 2 _ rfl; have v3 := T7.out.b1.c 3 _ rfl; have v4 := T7.out.b1.c 4 _ rfl; have v5 := T7.out.b1.c 5 _ rfl; have v6 := T7.out.b1.c 6 _ rfl; have v7 := T7.out.b1.c 7 _ rfl; have v8 := T7.out.b1.c 8 _ rfl; have v9 := T7.out.b1.c 9 _ rfl; have v10 := T7.out.b1.c 10 _ rfl; have r0 := T7.out.b2.c 0 _ rfl; have r1 := T7.out.b2.c 1 _ rfl; have r2 := T7.out.b2.c 2 _ rfl; have r3 := T7.out.b2.c 3 _ rfl; have r4 := T7.out.b2.c 4 _ rfl; have r5 := T7.out.b2.c 5 _ rfl; have r6 := T7.out.b2.c 6 _ rfl; have r7 := T7.out.b2.c 7 _ rfl; have r8 := T7.out.b2.c 8 _ rfl; have r9 := T7.out.b2.c 9 _ rfl; have r10 := T7.out.b2.c 10 _ rfl; have k0 := T7.out.b2.f 0; have k1 := T7.out.b2.f 1; have k2 := T7.out.b2.f 2; have k3 := T7.out.b2.f 3; have k4 := T7.out.b2.f 4; have k5 := T7.out.b2.f 5; have k6 := T7.out.b2.f 6; have k7 := T7.out.b2.f 7; have k8 := T7.out.b2.f 8; have k9 := T7.out.b2.f 9; have k10 := T7.out.b2.f 10
          have bz := T7.out.lt.1; have bz1 := T7.out.lt.2
          cases r
          · go_wp2_with fail
            clear v0 v1 v2 v3 v4 v5 v6 v7 v8 v9 v10 r0 r1 r2 r3 r4 r5 r6 r7 r8 r9 r10 k0 k1 k2 k3 k4 k5 k6 k7 k8 k9 k10
            have hz' := T0.out.hz
            have G := G2.out
            subst G
            obtain ⟨q11, qc11⟩ := (T7.out.b2).set11 (.slice (some ⟨lb, 0, none⟩) (nS c t) lc) (.slice (some ⟨fb, 0, none⟩) (nG c t) fc) (.slice (some ⟨mb, 0, none⟩) (nG c t) mc) (.int .i64 (wordsOf c t)) (.slice ca c.cl.length cc) (.int .i64 n) (.slice qv g1.q.length qc') (.slice (some ⟨go, 0, none⟩) g1.ow.length oc') (.slice (some ⟨gd, 0, none⟩) g1.di.length dc') (.int .i64 (p : Int)) (.int .i64 ((A : Int) + 1)) _ rfl
            have q0 := q11.c 0 _ rfl; have q1 := q11.c 1 _ rfl; have q2 := q11.c 2 _ rfl; have q3 := q11.c 3 _ rfl; have q4 := q11.c 4 _ rfl; have q5 := q11.c 5 _ rfl; have q6 := q11.c 6 _ rfl; have q7 := q11.c 7 _ rfl; have q8 := q11.c 8 _ rfl; have q9 := q11.c 9 _ rfl; have q10 := q11.c 10 _ rfl
            refine bodyPost_ret (v := .tuple #[.agg #[.slice (some ⟨lb, 0, none⟩) (nS c t) lc, .slice (some ⟨fb, 0, none⟩) (nG c t) fc, .slice (some ⟨mb, 0, none⟩) (nG c t) mc, .int .i64 (wordsOf c t), .slice ca c.cl.length cc, .int .i64 n, .slice qv g1.q.length qc', .slice (some ⟨go, 0, none⟩) g1.ow.length oc', .slice (some ⟨gd, 0, none⟩) g1.di.length dc', .int .i64 (p : Int), .int .i64 ((A : Int) + 1)], .int .i64 0, .bool false, .bool true]) (by simp [results, Tryd.results75, go_sem, q0, q1, q2, q3, q4, q5, q6, q7, q8, q9, q10]) rfl ⟨[.slice (some ⟨lb, 0, none⟩) (nS c t) lc, .slice (some ⟨fb, 0, none⟩) (nG c t) fc, .slice (some ⟨mb, 0, none⟩) (nG c t) mc, .int .i64 (wordsOf c t), .slice ca c.cl.length cc, .int .i64 n, .slice qv g1.q.length qc', .slice (some ⟨go, 0, none⟩) g1.ow.length oc', .slice (some ⟨gd, 0, none⟩) g1.di.length dc', .int .i64 (p : Int), .int .i64 ((A : Int) + 1)], rfl, ?_, qc11.over T7.out.ext (fun k e => by omega)⟩
            have ho := T1.out.ext.size
            have cz := C7.out
            have QA := C4.out.qrow (((C5.out.mono (fun k e => .inr (.inr e) : ∀ k, k = go → (k = z ∨ k = z + 1 ∨ k = go))).trans (cz.mono (fun k e => .inl e))).trans (qc11.mono fun k e => .inr (.inl e))) (fun k e => by omega)
            have cy := (cz.mono (fun k e => .inl e : ∀ k, k = z → (k = z ∨ k = z + 1))).trans (qc11.mono fun k e => .inr e)
            exact ⟨lb, lc, fb, fc, mb, mc, ca, cc, _, _, some ⟨go, 0, none⟩, oc', some ⟨gd, 0, none⟩, dc', _, _, by unfold gvs; rw [List.length_set], H.out.made HP.out (qc11.over T7.out.ext (fun k e => by omega)) QA.1 (OW5.out.chg cy (fun b o e q => by cases e; omega)) (DI5.out.chg cy (fun b o e q => by cases e; omega)) (fun h0 x o e => by have := QA.2.1 h0 x o e; omega) (fun x o e => by cases e; omega) (fun x o e => by cases e; omega) QA.2.2 ok'.out PK.out⟩
          · go_wp2_with fail
            clear v0 v1 v2 v3 v4 v5 v6 v7 v8 v9 v10 r0 r1 r2 r3 r4 r5 r6 r7 r8 r9 r10 k0 k1 k2 k3 k4 k5 k6 k7 k8 k9 k10
            have hz' := T0.out.hz
            have G := G2.out
            subst G
            obtain ⟨q11, qc11⟩ := (T7.out.b2).set11 (.slice (some ⟨lb, 0, none⟩) (nS c t) lc) (.slice (some ⟨fb, 0, none⟩) (nG c t) fc) (.slice (some ⟨mb, 0, none⟩) (nG c t) mc) (.int .i64 (wordsOf c t)) (.slice ca c.cl.length cc) (.int .i64 n) (.slice qv g1.q.length qc') (.slice (some ⟨go, 0, none⟩) g1.ow.length oc') (.slice (some ⟨gd, 0, none⟩) g1.di.length dc') (.int .i64 (p : Int)) (.int .i64 ((A : Int) + 1)) _ rfl
            have q0 := q11.c 0 _ rfl; have q1 := q11.c 1 _ rfl; have q2 := q11.c 2 _ rfl; have q3 := q11.c 3 _ rfl; have q4 := q11.c 4 _ rfl; have q5 := q11.c 5 _ rfl; have q6 := q11.c 6 _ rfl; have q7 := q11.c 7 _ rfl; have q8 := q11.c 8 _ rfl; have q9 := q11.c 9 _ rfl; have q10 := q11.c 10 _ rfl
            refine bodyPost_ret (v := .tuple #[.agg #[.slice (some ⟨lb, 0, none⟩) (nS c t) lc, .slice (some ⟨fb, 0, none⟩) (nG c t) fc, .slice (some ⟨mb, 0, none⟩) (nG c t) mc, .int .i64 (wordsOf c t), .slice ca c.cl.length cc, .int .i64 n, .slice qv g1.q.length qc', .slice (some ⟨go, 0, none⟩) g1.ow.length oc', .slice (some ⟨gd, 0, none⟩) g1.di.length dc', .int .i64 (p : Int), .int .i64 ((A : Int) + 1)], .int .i64 ((F : Int) + (A : Int)), .bool true, .bool true]) (by simp [results, Tryd.results75, go_sem, q0, q1, q2, q3, q4, q5, q6, q7, q8, q9, q10]) rfl ⟨[.slice (some ⟨lb, 0, none⟩) (nS c t) lc, .slice (some ⟨fb, 0, none⟩) (nG c t) fc, .slice (some ⟨mb, 0, none⟩) (nG c t) mc, .int .i64 (wordsOf c t), .slice ca c.cl.length cc, .int .i64 n, .slice qv g1.q.length qc', .slice (some ⟨go, 0, none⟩) g1.ow.length oc', .slice (some ⟨gd, 0, none⟩) g1.di.length dc', .int .i64 (p : Int), .int .i64 ((A : Int) + 1)], by simp, ?_, qc11.over T7.out.ext (fun k e => by omega)⟩
            have ho := T1.out.ext.size
            have cz := C7.out
            have QA := C4.out.qrow (((C5.out.mono (fun k e => .inr (.inr e) : ∀ k, k = go → (k = z ∨ k = z + 1 ∨ k = go))).trans (cz.mono (fun k e => .inl e))).trans (qc11.mono fun k e => .inr (.inl e))) (fun k e => by omega)
            have cy := (cz.mono (fun k e => .inl e : ∀ k, k = z → (k = z ∨ k = z + 1))).trans (qc11.mono fun k e => .inr e)
            exact ⟨lb, lc, fb, fc, mb, mc, ca, cc, _, _, some ⟨go, 0, none⟩, oc', some ⟨gd, 0, none⟩, dc', _, _, by unfold gvs; rw [List.length_set], H.out.made HP.out (qc11.over T7.out.ext (fun k e => by omega)) QA.1 (OW5.out.chg cy (fun b o e q => by cases e; omega)) (DI5.out.chg cy (fun b o e q => by cases e; omega)) (fun h0 x o e => by have := QA.2.1 h0 x o e; omega) (fun x o e => by cases e; omega) (fun x o e => by cases e; omega) QA.2.2 ok'.out PK.out⟩
    · have t0 : decide ((0 : Int) < (g.q.length : Int)) = true := decide_eq_true (by omega)
      have t1 : decide (0 < g.q.length) = true := decide_eq_true (by omega)
      obtain ⟨rfl, rfl, rfl, rfl⟩ : g = g' ∧ 0 = x ∧ false = b ∧ false = b2 := by
        have := HR.out
        unfold walkG at this
        rw [if_pos HW.out, if_neg hq] at this
        injection this with e1 e2; injection e2 with e2 e3; injection e3 with e3 e4
        exact ⟨e1, e2, e3, e4⟩
      clear hq
      go_wp2_with fail
      clear v0 v1 v2 v3 v4 v5 v6 v7 v8 v9 v10 r0 r1 r2 r3 r4 r5 r6 r7 r8 r9 r10 k0 k1 k2 k3 k4 k5 k6 k7 k8 k9 k10
      have hz' := T0.out.hz
      obtain ⟨q11, qc11⟩ := (T1.out.b2).set11 (.slice (some ⟨lb, 0, none⟩) (nS c t) lc) (.slice (some ⟨fb, 0, none⟩) (nG c t) fc) (.slice (some ⟨mb, 0, none⟩) (nG c t) mc) (.int .i64 (wordsOf c t)) (.slice ca c.cl.length cc) (.int .i64 n) (.slice qa g.q.length qc) (.slice oa g.ow.length oc) (.slice da g.di.length dc) (.int .i64 (-1)) (.int .i64 0) _ rfl
      have q0 := q11.c 0 _ rfl; have q1 := q11.c 1 _ rfl; have q2 := q11.c 2 _ rfl; have q3 := q11.c 3 _ rfl; have q4 := q11.c 4 _ rfl; have q5 := q11.c 5 _ rfl; have q6 := q11.c 6 _ rfl; have q7 := q11.c 7 _ rfl; have q8 := q11.c 8 _ rfl; have q9 := q11.c 9 _ rfl; have q10 := q11.c 10 _ rfl
      refine bodyPost_ret (v := .tuple #[.agg #[.slice (some ⟨lb, 0, none⟩) (nS c t) lc, .slice (some ⟨fb, 0, none⟩) (nG c t) fc, .slice (some ⟨mb, 0, none⟩) (nG c t) mc, .int .i64 (wordsOf c t), .slice ca c.cl.length cc, .int .i64 n, .slice qa g.q.length qc, .slice oa g.ow.length oc, .slice da g.di.length dc, .int .i64 (-1), .int .i64 0], .int .i64 0, .bool false, .bool false]) (by simp [results, Tryd.results75, go_sem, q0, q1, q2, q3, q4, q5, q6, q7, q8, q9, q10]) rfl ⟨[.slice (some ⟨lb, 0, none⟩) (nS c t) lc, .slice (some ⟨fb, 0, none⟩) (nG c t) fc, .slice (some ⟨mb, 0, none⟩) (nG c t) mc, .int .i64 (wordsOf c t), .slice ca c.cl.length cc, .int .i64 n, .slice qa g.q.length qc, .slice oa g.ow.length oc, .slice da g.di.length dc, .int .i64 (-1), .int .i64 0], rfl, ⟨lb, lc, fb, fc, mb, mc, ca, cc, qa, qc, oa, oc, da, dc, -1, 0, rfl, H.out.over T1.out.ext qc11 (fun k e => by omega)⟩, qc11.over T1.out.ext (fun k e => by omega)⟩
  · obtain ⟨p, hp, rfl, e1, e2, e3, ea⟩ : ∃ p : Nat, p < nG c t ∧ pg = p ∧ fsN c t p ≤ g.at_ ∧ g.at_ < g.en ∧ g.en = fsN c t p + mnN c t p ∧ a = (g.at_ : Int) - fsN c t p := by
      rcases H.out.pg with ⟨h2, _⟩ | h2
      · exact absurd h2 hw
      · exact h2
    obtain ⟨F, hF⟩ : ∃ F, fsN c t p = F := ⟨_, rfl⟩
    obtain ⟨A, hA⟩ : ∃ A : Nat, g.at_ = F + A := ⟨g.at_ - F, by omega⟩
    obtain rfl : a = (A : Int) := by omega
    have HW := Lib.hid hw
    have EF := Lib.hid hF; have EA := Lib.hid hA; have E3 := Lib.hid (show g.en = F + mnN c t p by omega)
    have HAM := Lib.hid (show A < mnN c t p by omega)
    clear hw hF hA e1 e2 e3 ea
    obtain ⟨z, hz⟩ : ∃ z, w.heap.size = z := ⟨_, rfl⟩
    have tw := two17 w (gvs lb lc fb fc mb mc ca cc c t n (.slice qa g.q.length qc) (.slice oa g.ow.length oc) (.slice da g.di.length dc) (p : Int) (A : Int)) gnil 33 33 hz
    obtain ⟨W0, hW0⟩ : ∃ W0, (w.alloc (.cells (gvs lb lc fb fc mb mc ca cc c t n (.slice qa g.q.length qc) (.slice oa g.ow.length oc) (.slice da g.di.length dc) (p : Int) (A : Int)).toArray 33)).alloc (.cells gnil.toArray 33) = W0 := ⟨_, rfl⟩
    rw [hW0] at tw
    unfold gvs at tw hW0 ⊢
    unfold gnil at tw hW0
    change (w.alloc (.cells #[_, _, _, _, _, _, _, _, _, _, _] _)).alloc (.cells #[_, _, _, _, _, _, _, _, _, _, _] _) = W0 at hW0
    have T0 := Lib.hid tw
    have bz := tw.lt.1; have bz1 := tw.lt.2
    have v0 := tw.b1.c 0 _ rfl; have v1 := tw.b1.c 1 _ rfl; have v2 := tw.b1.c 2 _ rfl; have v3 := tw.b1.c 3 _ rfl; have v4 := tw.b1.c 4 _ rfl; have v5 := tw.b1.c 5 _ rfl; have v6 := tw.b1.c 6 _ rfl; have v7 := tw.b1.c 7 _ rfl; have v8 := tw.b1.c 8 _ rfl; have v9 := tw.b1.c 9 _ rfl; have v10 := tw.b1.c 10 _ rfl
    clear tw
    show Calls _ _ #[.agg #[_, _, _, _, _, _, _, _, _, _, _]] _ _
    have tp : decide ((p : Int) < 0) = false := by simp
    go_enter Tryd.func75, Tryd.ntmps75
    go_wp2_with fail
    have T1 := T0; have H1 := Lib.hid (H.out.ext T0.out.ext)
    have HNE := HW; have HS1 : Hid (stepG g = (g', x, b, b2)) := Lib.hid (by have := HR.out; unfold walkG at this; rw [if_neg HW.out] at this; exact this)
    obtain ⟨M, hM⟩ : ∃ M, mnN c t p = M := ⟨_, rfl⟩
    have EM := Lib.hid hM
    have pf := pgFacts H.out.plan.ok H.out.plan.ti hp
    have f1 := pf.pos; have f2 := pf.le
    have sle := H.out.plan.ok.nS_le H.out.plan.ti
    have ha := HAM.out
    rw [EF.out] at f2; rw [hM] at f1 f2 ha
    have CF : Hid (w.cell? ⟨fb, p, none⟩ = some (.int .i64 (F : Int))) := Lib.hid (by
      obtain ⟨b, o, e, hc⟩ := H.out.plan.f p (by simpa [firsts] using hp)
      cases e
      have e5 : nth (firsts c t (nG c t)) p = (F : Int) := by
        rw [← EF.out, ← pf.fs]; simp [firsts, nth, List.getD, hp]
      rw [e5, Nat.zero_add] at hc; exact hc)
    have CM : Hid (w.cell? ⟨mb, p, none⟩ = some (.int .i64 (M : Int))) := Lib.hid (by
      obtain ⟨b, o, e, hc⟩ := H.out.plan.m p (by simpa [manys] using hp)
      cases e
      have e5 : nth (manys c t (nG c t)) p = (M : Int) := by
        rw [← hM, ← pf.mn]; simp [manys, nth, List.getD, hp]
      rw [e5, Nat.zero_add] at hc; exact hc)
    have lo : F + A < g.ow.length := by rw [H1.out.ok.ol]; omega
    have A64 : F + A ≤ 16384 := by omega
    have M64 : F + M ≤ 16384 := by omega
    have NG := Lib.hid hp
    clear pf hM sle f2 ha
    refine (ref17_copied H1.out).mono ?_
    rintro e w2 ⟨vq, go, oc', gd, dc', rfl, hcp, x2⟩
    have T2 := Lib.hid (T1.out.go x2)
    obtain ⟨qv, qc', rfl, hnb⟩ := newInts_of hcp.q
    clear v0 v1 v2 v3 v4 v5 v6 v7 v8 v9 v10 bz bz1 hnb
    have v0 := T2.out.b1.c 0 _ rfl; have v1 := T2.out.b1.c 1 _ rfl; have v2 := T2.out.b1.c 2 _ rfl; have v3 := T2.out.b1.c 3 _ rfl; have v4 := T2.out.b1.c 4 _ rfl; have v5 := T2.out.b1.c 5 _ rfl; have v6 := T2.out.b1.c 6 _ rfl; have v7 := T2.out.b1.c 7 _ rfl; have v8 := T2.out.b1.c 8 _ rfl; have v9 := T2.out.b1.c 9 _ rfl; have v10 := T2.out.b1.c 10 _ rfl; have f0 := T2.out.b1.f 0; have f1 := T2.out.b1.f 1; have f2 := T2.out.b1.f 2; have f3 := T2.out.b1.f 3; have f4 := T2.out.b1.f 4; have f5 := T2.out.b1.f 5; have f6 := T2.out.b1.f 6; have f7 := T2.out.b1.f 7; have f8 := T2.out.b1.f 8; have f9 := T2.out.b1.f 9; have f10 := T2.out.b1.f 10
    have bz := T2.out.lt.1; have bz1 := T2.out.lt.2
    unfold gvs
    go_upto_region 10 with fail
    clear v0 v1 v2 v3 v4 v5 v6 v7 v8 v9 v10 f0 f1 f2 f3 f4 f5 f6 f7 f8 f9 f10 bz bz1
    refine T2.out.then1 (Q := Code.wp _ _ _ _) ?_
    intro W3 t3 c3
    have T3 := Lib.hid t3; have C3 := Lib.hid (hcp.chg c3 T1.out.lt.1)
    clear t3 c3 hcp x2
    have v1 := T3.out.b1.c 1 _ rfl; have v9 := T3.out.b1.c 9 _ rfl; have v10 := T3.out.b1.c 10 _ rfl
    have bz := T3.out.lt.1; have bz1 := T3.out.lt.2
    have cf := T3.out.ext.cell CF.out
    have co : W3.cell? ⟨go, F + A, none⟩ = some (.bool (bnth g.ow (F + A))) := by
      obtain ⟨b, o, e, hc⟩ := C3.out.ow (F + A) lo
      cases e; rwa [Nat.zero_add] at hc
    have pn : p < nG c t := NG.out
    have d1 := fun d os => cell_regrown v1 d os; have d9 := fun d os => cell_regrown v9 d os; have d10 := fun d os => cell_regrown v10 d os; have df := fun d os => cell_regrown cf d os
    refine wp_region_quiet_below (by kernel_rfl) (by kernel_rfl) ?_
    repeat (any_goals (first | go_big_quiet_step (fail) | quiet_step (fail)))
    refine wpQuiet_nil ?_
    intro _ hw'
    obtain ⟨⟨dq, osq⟩, hw''⟩ := hw'
    obtain ⟨WQ, hWQ⟩ := grown_ex hw''
    have xq := hWQ.2
    obtain rfl := hWQ.1
    clear hw'' hWQ
    have T4 := Lib.hid (T3.out.go xq); have C4 := Lib.hid (C3.out.go xq)
    replace co := xq.cell co
    have fo := C4.out.fo (F + A)
    clear d1 d9 d10 df v1 v9 v10 cf xq bz bz1
    have v3 := T4.out.b1.c 7 _ rfl
    have v10 := T4.out.b1.c 10 _ rfl
    have bz := T4.out.lt.1; have bz1 := T4.out.lt.2
    go_upto_region 13 with fail
    have ob := C4.out.ob; have olt := C4.out.lt
    have tl := T1.out.lt.2
    have T5 := Lib.hid (T4.out.far (p := ⟨go, F + A, none⟩) (show z + 2 ≤ go by omega) (.bool false))
    have c5 := (Chg.refl (fun k => k = go) WQ).setCell (p := ⟨go, F + A, none⟩) (.inl rfl) (.bool false)
    have OW5 := Lib.hid (C4.out.ow.set lo false)
    have DI5 := Lib.hid (C4.out.di.chg c5 (fun b o e q => by cases e; omega))
    obtain ⟨W5, hW5⟩ : ∃ W, WQ.setCell ⟨go, F + A, none⟩ (.bool false) = W := ⟨_, rfl⟩
    rw [hW5] at T5 c5 OW5 DI5 ⊢
    have C5 := Lib.hid c5
    clear v3 v10 co fo bz bz1 hW5 c5
    have v10 := T5.out.b1.c 10 _ rfl; have f10 := T5.out.b1.f 10; have bz := T5.out.lt.1; have bz1 := T5.out.lt.2
    go_upto_region 14 with fail
    have T6 := Lib.hid (T5.out.set1 (i := 10) (show 10 < 11 by decide) (.int .i64 ((A : Int) + 1)))
    have c6 := (Chg.refl (fun k => k = z) W5).setCell (p := ⟨z, 10, none⟩) (.inl rfl) (.int .i64 ((A : Int) + 1))
    obtain ⟨W6, hW6⟩ : ∃ W, W5.setCell ⟨z, 10, none⟩ (.int .i64 ((A : Int) + 1)) = W := ⟨_, rfl⟩
    rw [hW6] at T6 c6 ⊢
    have C6 := Lib.hid c6
    clear v10 f10 bz bz1 c6 hW6
    have v2 := T6.out.b1.c 2 _ rfl; have v9 := T6.out.b1.c 9 _ rfl; have v10 := T6.out.b1.c 10 _ rfl
    have bz := T6.out.lt.1; have bz1 := T6.out.lt.2
    have cm := T6.out.ext.cell CM.out
    have d2 := fun d os => cell_regrown v2 d os; have d9 := fun d os => cell_regrown v9 d os; have d10 := fun d os => cell_regrown v10 d os; have dm := fun d os => cell_regrown cm d os
    refine wp_region_quiet_below (by kernel_rfl) (by kernel_rfl) ?_
    repeat (any_goals (first | go_big_quiet_step (fail) | quiet_step (fail)))
    refine wpQuiet_nil ?_
    intro _ hw'
    obtain ⟨⟨dq, osq⟩, hw''⟩ := hw'
    obtain ⟨WQ, hWQ⟩ := grown_ex hw''
    have xq := hWQ.2
    obtain rfl := hWQ.1
    clear hw'' hWQ
    have T7 := Lib.hid (T6.out.go xq); have C7 := Lib.hid (C6.out.trans (Chg.of_ext xq))
    clear d2 d9 d10 dm v2 v9 v10 cm xq bz bz1
    obtain ⟨r, hrr⟩ : ∃ r, bnth g.ow (F + A) = r := ⟨_, rfl⟩
    have ER := Lib.hid hrr
    rw [hrr]
    clear hrr
    obtain ⟨g2, hg2⟩ : ∃ g2 : GS, { g with at_ := g.at_ + 1, ow := g.ow.set (F + A) false } = g2 := ⟨_, rfl⟩
    obtain ⟨rfl, rfl, rfl, rfl⟩ : g2 = g' ∧ (if r then ((F + A : Nat) : Int) else 0) = x ∧ r = b ∧ true = b2 := by
      have := HS1.out
      unfold stepG at this
      rw [EA.out, ER.out] at this
      injection this with e1 e2; injection e2 with e2 e3; injection e3 with e3 e4
      exact ⟨by rw [← hg2, ← e1, EA.out], e2, e3, e4⟩
    have ok' := Lib.hid (show GOk c t n g2 by
      have := stepG_ok H1.out.ok HNE.out
      rw [HS1.out] at this; exact this)
    have G2 := Lib.hid hg2
    clear hg2
    have pn : p < nG c t := NG.out
    by_cases hm : A + 1 = M
    · have te : ((A : Int) + 1 == (M : Int)) = true := by rw [beq_iff_eq]; omega
      have PK := Lib.hid (show PgG c t g2 (-1) 0 from .inl ⟨by rw [← G2.out]; show g.at_ + 1 = g.en; have := EA.out; have := E3.out; have := EM.out; omega, rfl, rfl⟩)
      clear hm
      have f9 := T7.out.b1.f 9; have f10 := T7.out.b1.f 10; have v9 := T7.out.b1.c 9 _ rfl; have v10 := T7.out.b1.c 10 _ rfl
      have bz := T7.out.lt.1; have bz1 := T7.out.lt.2
      go_upto_region 17 with fail
      have T8 := Lib.hid ((T7.out.set1 (i := 9) (show 9 < 11 by decide) (.int .i64 (-1))).set1 (i := 10) (show 10 < 11 by decide) (.int .i64 0))
      have c8 := ((Chg.refl (fun k => k = z) WQ).setCell (p := ⟨z, 9, none⟩) (.inl rfl) (.int .i64 (-1))).setCell (p := ⟨z, 10, none⟩) (.inl rfl) (.int .i64 0)
      obtain ⟨W8, hW8⟩ : ∃ W, (WQ.setCell ⟨z, 9, none⟩ (.int .i64 (-1))).setCell ⟨z, 10, none⟩ (.int .i64 0) = W := ⟨_, rfl⟩
      rw [hW8] at T8 c8 ⊢
      have C8 := Lib.hid (C7.out.trans c8)
      clear v9 v10 f9 f10 bz bz1 c8 hW8
      have v0 := T8.out.b1.c 0 _ rfl; have v1 := T8.out.b1.c 1 _ rfl; have v2 := T8.out.b1.c 2 _ rfl; have v3 := T8.out.b1.c 3 _ rfl; have v4 := T8.out.b1.c 4 _ rfl; have v5 := T8.out.b1.c 5 _ rfl; have v6 := T8.out.b1.c 6 _ rfl; have v7 := T8.out.b1.c 7 _ rfl; have v8 := T8.out.b1.c 8 _ rfl; have v9 := T8.out.b1.c 9 _ rfl; have v10 := T8.out.b1.c 10 _ rfl; have r0 := T8.out.b2.c 0 _ rfl; have r1 := T8.out.b2.c 1 _ rfl; have r2 := T8.out.b2.c 2 _ rfl; have r3 := T8.out.b2.c 3 _ rfl; have r4 := T8.out.b2.c 4 _ rfl; have r5 := T8.out.b2.c 5 _ rfl; have r6 := T8.out.b2.c 6 _ rfl; have r7 := T8.out.b2.c 7 _ rfl; have r8 := T8.out.b2.c 8 _ rfl; have r9 := T8.out.b2.c 9 _ rfl; have r10 := T8.out.b2.c 10 _ rfl; have k0 := T8.out.b2.f 0; have k1 := T8.out.b2.f 1; have k2 := T8.out.b2.f 2; have k3 := T8.out.b2.f 3; have k4 := T8.out.b2.f 4; have k5 := T8.out.b2.f 5; have k6 := T8.out.b2.f 6; have k7 := T8.out.b2.f 7; have k8 := T8.out.b2.f 8; have k9 := T8.out.b2.f 9; have k10 := T8.out.b2.f 10
      have bz := T8.out.lt.1; have bz1 := T8.out.lt.2
      cases r
      · go_wp2_with fail
        clear v0 v1 v2 v3 v4 v5 v6 v7 v8 v9 v10 r0 r1 r2 r3 r4 r5 r6 r7 r8 r9 r10 k0 k1 k2 k3 k4 k5 k6 k7 k8 k9 k10
        have hz' := T0.out.hz
        have G := G2.out
        subst G
        obtain ⟨q11, qc11⟩ := (T8.out.b2).set11 (.slice (some ⟨lb, 0, none⟩) (nS c t) lc) (.slice (some ⟨fb, 0, none⟩) (nG c t) fc) (.slice (some ⟨mb, 0, none⟩) (nG c t) mc) (.int .i64 (wordsOf c t)) (.slice ca c.cl.length cc) (.int .i64 n) (.slice qv g.q.length qc') (.slice (some ⟨go, 0, none⟩) g.ow.length oc') (.slice (some ⟨gd, 0, none⟩) g.di.length dc') (.int .i64 (-1)) (.int .i64 0) _ rfl
        have q0 := q11.c 0 _ rfl; have q1 := q11.c 1 _ rfl; have q2 := q11.c 2 _ rfl; have q3 := q11.c 3 _ rfl; have q4 := q11.c 4 _ rfl; have q5 := q11.c 5 _ rfl; have q6 := q11.c 6 _ rfl; have q7 := q11.c 7 _ rfl; have q8 := q11.c 8 _ rfl; have q9 := q11.c 9 _ rfl; have q10 := q11.c 10 _ rfl
        refine bodyPost_ret (v := .tuple #[.agg #[.slice (some ⟨lb, 0, none⟩) (nS c t) lc, .slice (some ⟨fb, 0, none⟩) (nG c t) fc, .slice (some ⟨mb, 0, none⟩) (nG c t) mc, .int .i64 (wordsOf c t), .slice ca c.cl.length cc, .int .i64 n, .slice qv g.q.length qc', .slice (some ⟨go, 0, none⟩) g.ow.length oc', .slice (some ⟨gd, 0, none⟩) g.di.length dc', .int .i64 (-1), .int .i64 0], .int .i64 0, .bool false, .bool true]) (by simp [results, Tryd.results75, go_sem, q0, q1, q2, q3, q4, q5, q6, q7, q8, q9, q10]) rfl ⟨[.slice (some ⟨lb, 0, none⟩) (nS c t) lc, .slice (some ⟨fb, 0, none⟩) (nG c t) fc, .slice (some ⟨mb, 0, none⟩) (nG c t) mc, .int .i64 (wordsOf c t), .slice ca c.cl.length cc, .int .i64 n, .slice qv g.q.length qc', .slice (some ⟨go, 0, none⟩) g.ow.length oc', .slice (some ⟨gd, 0, none⟩) g.di.length dc', .int .i64 (-1), .int .i64 0], rfl, ?_, qc11.over T8.out.ext (fun k e => by omega)⟩
        have ho := T1.out.ext.size
        have cz := C8.out
        have QA := C4.out.qrow (((C5.out.mono (fun k e => .inr (.inr e) : ∀ k, k = go → (k = z ∨ k = z + 1 ∨ k = go))).trans (cz.mono (fun k e => .inl e))).trans (qc11.mono fun k e => .inr (.inl e))) (fun k e => by omega)
        have cy := (cz.mono (fun k e => .inl e : ∀ k, k = z → (k = z ∨ k = z + 1))).trans (qc11.mono fun k e => .inr e)
        exact ⟨lb, lc, fb, fc, mb, mc, ca, cc, _, _, some ⟨go, 0, none⟩, oc', some ⟨gd, 0, none⟩, dc', _, _, by unfold gvs; rw [List.length_set], H.out.made HP.out (qc11.over T8.out.ext (fun k e => by omega)) QA.1 (OW5.out.chg cy (fun b o e q => by cases e; omega)) (DI5.out.chg cy (fun b o e q => by cases e; omega)) (fun h0 x o e => by have := QA.2.1 h0 x o e; omega) (fun x o e => by cases e; omega) (fun x o e => by cases e; omega) QA.2.2 ok'.out PK.out⟩
      · go_wp2_with fail
        clear v0 v1 v2 v3 v4 v5 v6 v7 v8 v9 v10 r0 r1 r2 r3 r4 r5 r6 r7 r8 r9 r10 k0 k1 k2 k3 k4 k5 k6 k7 k8 k9 k10
        have hz' := T0.out.hz
        have G := G2.out
        subst G
        obtain ⟨q11, qc11⟩ := (T8.out.b2).set11 (.slice (some ⟨lb, 0, none⟩) (nS c t) lc) (.slice (some ⟨fb, 0, none⟩) (nG c t) fc) (.slice (some ⟨mb, 0, none⟩) (nG c t) mc) (.int .i64 (wordsOf c t)) (.slice ca c.cl.length cc) (.int .i64 n) (.slice qv g.q.length qc') (.slice (some ⟨go, 0, none⟩) g.ow.length oc') (.slice (some ⟨gd, 0, none⟩) g.di.length dc') (.int .i64 (-1)) (.int .i64 0) _ rfl
        have q0 := q11.c 0 _ rfl; have q1 := q11.c 1 _ rfl; have q2 := q11.c 2 _ rfl; have q3 := q11.c 3 _ rfl; have q4 := q11.c 4 _ rfl; have q5 := q11.c 5 _ rfl; have q6 := q11.c 6 _ rfl; have q7 := q11.c 7 _ rfl; have q8 := q11.c 8 _ rfl; have q9 := q11.c 9 _ rfl; have q10 := q11.c 10 _ rfl
        refine bodyPost_ret (v := .tuple #[.agg #[.slice (some ⟨lb, 0, none⟩) (nS c t) lc, .slice (some ⟨fb, 0, none⟩) (nG c t) fc, .slice (some ⟨mb, 0, none⟩) (nG c t) mc, .int .i64 (wordsOf c t), .slice ca c.cl.length cc, .int .i64 n, .slice qv g.q.length qc', .slice (some ⟨go, 0, none⟩) g.ow.length oc', .slice (some ⟨gd, 0, none⟩) g.di.length dc', .int .i64 (-1), .int .i64 0], .int .i64 ((F : Int) + (A : Int)), .bool true, .bool true]) (by simp [results, Tryd.results75, go_sem, q0, q1, q2, q3, q4, q5, q6, q7, q8, q9, q10]) rfl ⟨[.slice (some ⟨lb, 0, none⟩) (nS c t) lc, .slice (some ⟨fb, 0, none⟩) (nG c t) fc, .slice (some ⟨mb, 0, none⟩) (nG c t) mc, .int .i64 (wordsOf c t), .slice ca c.cl.length cc, .int .i64 n, .slice qv g.q.length qc', .slice (some ⟨go, 0, none⟩) g.ow.length oc', .slice (some ⟨gd, 0, none⟩) g.di.length dc', .int .i64 (-1), .int .i64 0], by simp, ?_, qc11.over T8.out.ext (fun k e => by omega)⟩
        have ho := T1.out.ext.size
        have cz := C8.out
        have QA := C4.out.qrow (((C5.out.mono (fun k e => .inr (.inr e) : ∀ k, k = go → (k = z ∨ k = z + 1 ∨ k = go))).trans (cz.mono (fun k e => .inl e))).trans (qc11.mono fun k e => .inr (.inl e))) (fun k e => by omega)
        have cy := (cz.mono (fun k e => .inl e : ∀ k, k = z → (k = z ∨ k = z + 1))).trans (qc11.mono fun k e => .inr e)
        exact ⟨lb, lc, fb, fc, mb, mc, ca, cc, _, _, some ⟨go, 0, none⟩, oc', some ⟨gd, 0, none⟩, dc', _, _, by unfold gvs; rw [List.length_set], H.out.made HP.out (qc11.over T8.out.ext (fun k e => by omega)) QA.1 (OW5.out.chg cy (fun b o e q => by cases e; omega)) (DI5.out.chg cy (fun b o e q => by cases e; omega)) (fun h0 x o e => by have := QA.2.1 h0 x o e; omega) (fun x o e => by cases e; omega) (fun x o e => by cases e; omega) QA.2.2 ok'.out PK.out⟩
    · have te : ((A : Int) + 1 == (M : Int)) = false := by rw [beq_eq_false_iff_ne]; omega
      have PK := Lib.hid (show PgG c t g2 (p : Int) ((A : Int) + 1) from .inr ⟨p, NG.out, rfl, by rw [← G2.out]; show _ ≤ g.at_ + 1; have := EA.out; have := EF.out; omega, by rw [← G2.out]; show g.at_ + 1 < g.en; have := EA.out; have := E3.out; have := EM.out; have := HAM.out; omega, by rw [← G2.out]; show g.en = _; have := E3.out; have := EF.out; omega, by rw [← G2.out]; show _ = ((g.at_ + 1 : Nat) : Int) - _; have := EA.out; have := EF.out; omega⟩)
      clear hm
      have v0 := T7.out.b1.c 0 _ rfl; have v1 := T7.out.b1.c 1 _ rfl; have v2 := T7.out.b1.c 2 _ rfl; have v3 := T7.out.b1.c 3 _ rfl; have v4 := T7.out.b1.c 4 _ rfl; have v5 := T7.out.b1.c 5 _ rfl; have v6 := T7.out.b1.c 6 _ rfl; have v7 := T7.out.b1.c 7 _ rfl; have v8 := T7.out.b1.c 8 _ rfl; have v9 := T7.out.b1.c 9 _ rfl; have v10 := T7.out.b1.c 10 _ rfl; have r0 := T7.out.b2.c 0 _ rfl; have r1 := T7.out.b2.c 1 _ rfl; have r2 := T7.out.b2.c 2 _ rfl; have r3 := T7.out.b2.c 3 _ rfl; have r4 := T7.out.b2.c 4 _ rfl; have r5 := T7.out.b2.c 5 _ rfl; have r6 := T7.out.b2.c 6 _ rfl; have r7 := T7.out.b2.c 7 _ rfl; have r8 := T7.out.b2.c 8 _ rfl; have r9 := T7.out.b2.c 9 _ rfl; have r10 := T7.out.b2.c 10 _ rfl; have k0 := T7.out.b2.f 0; have k1 := T7.out.b2.f 1; have k2 := T7.out.b2.f 2; have k3 := T7.out.b2.f 3; have k4 := T7.out.b2.f 4; have k5 := T7.out.b2.f 5; have k6 := T7.out.b2.f 6; have k7 := T7.out.b2.f 7; have k8 := T7.out.b2.f 8; have k9 := T7.out.b2.f 9; have k10 := T7.out.b2.f 10
      have bz := T7.out.lt.1; have bz1 := T7.out.lt.2
      cases r
      · go_wp2_with fail
        clear v0 v1 v2 v3 v4 v5 v6 v7 v8 v9 v10 r0 r1 r2 r3 r4 r5 r6 r7 r8 r9 r10 k0 k1 k2 k3 k4 k5 k6 k7 k8 k9 k10
        have hz' := T0.out.hz
        have G := G2.out
        subst G
        obtain ⟨q11, qc11⟩ := (T7.out.b2).set11 (.slice (some ⟨lb, 0, none⟩) (nS c t) lc) (.slice (some ⟨fb, 0, none⟩) (nG c t) fc) (.slice (some ⟨mb, 0, none⟩) (nG c t) mc) (.int .i64 (wordsOf c t)) (.slice ca c.cl.length cc) (.int .i64 n) (.slice qv g.q.length qc') (.slice (some ⟨go, 0, none⟩) g.ow.length oc') (.slice (some ⟨gd, 0, none⟩) g.di.length dc') (.int .i64 (p : Int)) (.int .i64 ((A : Int) + 1)) _ rfl
        have q0 := q11.c 0 _ rfl; have q1 := q11.c 1 _ rfl; have q2 := q11.c 2 _ rfl; have q3 := q11.c 3 _ rfl; have q4 := q11.c 4 _ rfl; have q5 := q11.c 5 _ rfl; have q6 := q11.c 6 _ rfl; have q7 := q11.c 7 _ rfl; have q8 := q11.c 8 _ rfl; have q9 := q11.c 9 _ rfl; have q10 := q11.c 10 _ rfl
        refine bodyPost_ret (v := .tuple #[.agg #[.slice (some ⟨lb, 0, none⟩) (nS c t) lc, .slice (some ⟨fb, 0, none⟩) (nG c t) fc, .slice (some ⟨mb, 0, none⟩) (nG c t) mc, .int .i64 (wordsOf c t), .slice ca c.cl.length cc, .int .i64 n, .slice qv g.q.length qc', .slice (some ⟨go, 0, none⟩) g.ow.length oc', .slice (some ⟨gd, 0, none⟩) g.di.length dc', .int .i64 (p : Int), .int .i64 ((A : Int) + 1)], .int .i64 0, .bool false, .bool true]) (by simp [results, Tryd.results75, go_sem, q0, q1, q2, q3, q4, q5, q6, q7, q8, q9, q10]) rfl ⟨[.slice (some ⟨lb, 0, none⟩) (nS c t) lc, .slice (some ⟨fb, 0, none⟩) (nG c t) fc, .slice (some ⟨mb, 0, none⟩) (nG c t) mc, .int .i64 (wordsOf c t), .slice ca c.cl.length cc, .int .i64 n, .slice qv g.q.length qc', .slice (some ⟨go, 0, none⟩) g.ow.length oc', .slice (some ⟨gd, 0, none⟩) g.di.length dc', .int .i64 (p : Int), .int .i64 ((A : Int) + 1)], rfl, ?_, qc11.over T7.out.ext (fun k e => by omega)⟩
        have ho := T1.out.ext.size
        have cz := C7.out
        have QA := C4.out.qrow (((C5.out.mono (fun k e => .inr (.inr e) : ∀ k, k = go → (k = z ∨ k = z + 1 ∨ k = go))).trans (cz.mono (fun k e => .inl e))).trans (qc11.mono fun k e => .inr (.inl e))) (fun k e => by omega)
        have cy := (cz.mono (fun k e => .inl e : ∀ k, k = z → (k = z ∨ k = z + 1))).trans (qc11.mono fun k e => .inr e)
        exact ⟨lb, lc, fb, fc, mb, mc, ca, cc, _, _, some ⟨go, 0, none⟩, oc', some ⟨gd, 0, none⟩, dc', _, _, by unfold gvs; rw [List.length_set], H.out.made HP.out (qc11.over T7.out.ext (fun k e => by omega)) QA.1 (OW5.out.chg cy (fun b o e q => by cases e; omega)) (DI5.out.chg cy (fun b o e q => by cases e; omega)) (fun h0 x o e => by have := QA.2.1 h0 x o e; omega) (fun x o e => by cases e; omega) (fun x o e => by cases e; omega) QA.2.2 ok'.out PK.out⟩
      · go_wp2_with fail
        clear v0 v1 v2 v3 v4 v5 v6 v7 v8 v9 v10 r0 r1 r2 r3 r4 r5 r6 r7 r8 r9 r10 k0 k1 k2 k3 k4 k5 k6 k7 k8 k9 k10
        have hz' := T0.out.hz
        have G := G2.out
        subst G
        obtain ⟨q11, qc11⟩ := (T7.out.b2).set11 (.slice (some ⟨lb, 0, none⟩) (nS c t) lc) (.slice (some ⟨fb, 0, none⟩) (nG c t) fc) (.slice (some ⟨mb, 0, none⟩) (nG c t) mc) (.int .i64 (wordsOf c t)) (.slice ca c.cl.length cc) (.int .i64 n) (.slice qv g.q.length qc') (.slice (some ⟨go, 0, none⟩) g.ow.length oc') (.slice (some ⟨gd, 0, none⟩) g.di.length dc') (.int .i64 (p : Int)) (.int .i64 ((A : Int) + 1)) _ rfl
        have q0 := q11.c 0 _ rfl; have q1 := q11.c 1 _ rfl; have q2 := q11.c 2 _ rfl; have q3 := q11.c 3 _ rfl; have q4 := q11.c 4 _ rfl; have q5 := q11.c 5 _ rfl; have q6 := q11.c 6 _ rfl; have q7 := q11.c 7 _ rfl; have q8 := q11.c 8 _ rfl; have q9 := q11.c 9 _ rfl; have q10 := q11.c 10 _ rfl
        refine bodyPost_ret (v := .tuple #[.agg #[.slice (some ⟨lb, 0, none⟩) (nS c t) lc, .slice (some ⟨fb, 0, none⟩) (nG c t) fc, .slice (some ⟨mb, 0, none⟩) (nG c t) mc, .int .i64 (wordsOf c t), .slice ca c.cl.length cc, .int .i64 n, .slice qv g.q.length qc', .slice (some ⟨go, 0, none⟩) g.ow.length oc', .slice (some ⟨gd, 0, none⟩) g.di.length dc', .int .i64 (p : Int), .int .i64 ((A : Int) + 1)], .int .i64 ((F : Int) + (A : Int)), .bool true, .bool true]) (by simp [results, Tryd.results75, go_sem, q0, q1, q2, q3, q4, q5, q6, q7, q8, q9, q10]) rfl ⟨[.slice (some ⟨lb, 0, none⟩) (nS c t) lc, .slice (some ⟨fb, 0, none⟩) (nG c t) fc, .slice (some ⟨mb, 0, none⟩) (nG c t) mc, .int .i64 (wordsOf c t), .slice ca c.cl.length cc, .int .i64 n, .slice qv g.q.length qc', .slice (some ⟨go, 0, none⟩) g.ow.length oc', .slice (some ⟨gd, 0, none⟩) g.di.length dc', .int .i64 (p : Int), .int .i64 ((A : Int) + 1)], by simp, ?_, qc11.over T7.out.ext (fun k e => by omega)⟩
        have ho := T1.out.ext.size
        have cz := C7.out
        have QA := C4.out.qrow (((C5.out.mono (fun k e => .inr (.inr e) : ∀ k, k = go → (k = z ∨ k = z + 1 ∨ k = go))).trans (cz.mono (fun k e => .inl e))).trans (qc11.mono fun k e => .inr (.inl e))) (fun k e => by omega)
        have cy := (cz.mono (fun k e => .inl e : ∀ k, k = z → (k = z ∨ k = z + 1))).trans (qc11.mono fun k e => .inr e)
        exact ⟨lb, lc, fb, fc, mb, mc, ca, cc, _, _, some ⟨go, 0, none⟩, oc', some ⟨gd, 0, none⟩, dc', _, _, by unfold gvs; rw [List.length_set], H.out.made HP.out (qc11.over T7.out.ext (fun k e => by omega)) QA.1 (OW5.out.chg cy (fun b o e q => by cases e; omega)) (DI5.out.chg cy (fun b o e q => by cases e; omega)) (fun h0 x o e => by have := QA.2.1 h0 x o e; omega) (fun x o e => by cases e; omega) (fun x o e => by cases e; omega) QA.2.2 ok'.out PK.out⟩

end Go.Proofs.YtlhajoamebfniaaDoor

/-! commonageref17: New. -/
namespace Go.Proofs.YtlhajoamebfniaaDoor
open Go.RowKit
variable {P : Nat → Prop} {w w' : World} {lb lc fb fc mb mc cc t n qc oc dc : Nat} {ca qa oa da : Option Addr} {c : Conf} {g g' : GS} {pg a : Int}

theorem gmake_bools (n : Nat) (h : n ≤ 65536) : ∀ W : World, (Instr.makeSlice 31 (.int .i64 (n : Int)) (.int .i64 (n : Int))).run Tryd.prog W = .ok (.slice (some ⟨W.heap.size, 0, none⟩) n n) (W.alloc (.cells (madeCells #[.bool false] n) 4)) := by
  intro W
  exact run_make_row' 31 4 (.bool false) 1 Tryd.underlying31 info_bool rfl .i64 .i64 n (by omega) (by omega) W
theorem made_two {W1 : World} {z S n1 n2 : Nat} {V : List Value} (b : BoxG W1 z V) (hs : W1.heap.size = S) (u1 u2 : TypeId) :
    BoxG ((W1.alloc (.cells (madeCells #[.bool false] n1) u1)).alloc (.cells (madeCells #[.bool false] n2) u2)).drew z V ∧
    BAt ((W1.alloc (.cells (madeCells #[.bool false] n1) u1)).alloc (.cells (madeCells #[.bool false] n2) u2)).drew (some ⟨S, 0, none⟩) (List.replicate n1 false) ∧
    BAt ((W1.alloc (.cells (madeCells #[.bool false] n1) u1)).alloc (.cells (madeCells #[.bool false] n2) u2)).drew (some ⟨S + 1, 0, none⟩) (List.replicate n2 false) ∧
    Ext W1 ((W1.alloc (.cells (madeCells #[.bool false] n1) u1)).alloc (.cells (madeCells #[.bool false] n2) u2)).drew := by
  subst hs
  have x : Ext W1 ((W1.alloc (.cells (madeCells #[.bool false] n1) u1)).alloc (.cells (madeCells #[.bool false] n2) u2)).drew := (((Ext.refl W1).alloc _).alloc _).drew
  refine ⟨b.ext x, BAt.mk fun i hi => ?_, BAt.mk fun i hi => ?_, x⟩
  · rw [List.length_replicate] at hi
    rw [Nat.zero_add, bnth_rep0]
    refine ((Ext.refl _).alloc _).drew.cell ?_
    rw [cell_newN, made_at hi]
  · rw [List.length_replicate] at hi
    rw [Nat.zero_add, bnth_rep0]
    refine (Ext.refl _).drew.cell ?_
    have := cell_newN (W1.alloc (.cells (madeCells #[.bool false] n1) u1)) (madeCells #[.bool false] n2) u2 i
    rw [World.size_alloc] at this
    rw [this, made_at hi]
set_option maxRecDepth 100000 in
set_option maxHeartbeats 8000000 in
theorem ref17_New (h : DPlan w lb fb mb ca c t) (hn : 1 ≤ n ∧ n ≤ 64) (hP : ∀ k, P k → k < w.heap.size) (h1 : ¬ P lb ∧ ¬ P fb ∧ ¬ P mb) (h2 : ∀ x o, ca = some ⟨x, o, none⟩ → ¬ P x) :
    Calls Tryd.prog 50 #[dpv lb lc fb fc mb mc ca cc c t, .int .i64 n] w fun e w' => ∃ V', e = .returned (.agg V'.toArray) ∧ DGr P w' c t n V' (clearG c t) ∧ Ext w w' := by
  have nb := h.ok.nS_le h.ti
  have gb : nG c t ≤ 16384 := by
    have hg := h.ok.nG_eq h.ti
    have := (h.ok.sG_le h.ti (k := c.cl.length) (Nat.le_refl _)).2
    have := h.ok.cl.most
    omega
  have mk1 := gmake_bools (nS c t) (by omega)
  have mk2 := gmake_bools (nG c t) (by omega)
  have H := Lib.hid h
  unfold dpv
  obtain ⟨z, hz⟩ : ∃ z, w.heap.size = z := ⟨_, rfl⟩
  have tw := two17 w [.slice (some ⟨lb, 0, none⟩) (nS c t) lc, .slice (some ⟨fb, 0, none⟩) (nG c t) fc, .slice (some ⟨mb, 0, none⟩) (nG c t) mc, .int .i64 (wordsOf c t), .slice ca c.cl.length cc] gnil 30 33 hz
  obtain ⟨W0, hW0⟩ : ∃ W0, (w.alloc (.cells [Value.slice (some ⟨lb, 0, none⟩) (nS c t) lc, .slice (some ⟨fb, 0, none⟩) (nG c t) fc, .slice (some ⟨mb, 0, none⟩) (nG c t) mc, .int .i64 (wordsOf c t), .slice ca c.cl.length cc].toArray 30)).alloc (.cells gnil.toArray 33) = W0 := ⟨_, rfl⟩
  rw [hW0] at tw
  unfold gnil at tw hW0
  change (w.alloc (.cells #[_, _, _, _, _] _)).alloc (.cells #[_, _, _, _, _, _, _, _, _, _, _] _) = W0 at hW0
  have T0 := Lib.hid tw
  have bz := tw.lt.1; have bz1 := tw.lt.2
  have v0 := tw.b1.c 0 _ rfl; have v1 := tw.b1.c 1 _ rfl; have v2 := tw.b1.c 2 _ rfl; have v3 := tw.b1.c 3 _ rfl; have v4 := tw.b1.c 4 _ rfl; have r0 := tw.b2.c 0 _ rfl; have r1 := tw.b2.c 1 _ rfl; have r2 := tw.b2.c 2 _ rfl; have r3 := tw.b2.c 3 _ rfl; have r4 := tw.b2.c 4 _ rfl; have r5 := tw.b2.c 5 _ rfl; have r6 := tw.b2.c 6 _ rfl; have r7 := tw.b2.c 7 _ rfl; have r8 := tw.b2.c 8 _ rfl; have r9 := tw.b2.c 9 _ rfl; have r10 := tw.b2.c 10 _ rfl; have k0 := tw.b2.f 0; have k1 := tw.b2.f 1; have k2 := tw.b2.f 2; have k3 := tw.b2.f 3; have k4 := tw.b2.f 4; have k5 := tw.b2.f 5; have k6 := tw.b2.f 6; have k7 := tw.b2.f 7; have k8 := tw.b2.f 8; have k9 := tw.b2.f 9; have k10 := tw.b2.f 10
  have HP := Lib.hid hP; have H1 := Lib.hid h1; have H2 := Lib.hid h2
  clear tw h hP h1 h2
  go_enter Tryd.func50, Tryd.ntmps50
  go_wp2_with fail
  go_region
  · clear v0 v1 v2 v3 v4 r0 r1 r2 r3 r4 r5 r6 r7 r8 r9 r10 k0 k1 k2 k3 k4 k5 k6 k7 k8 k9 k10 bz bz1 mk1 mk2
    go_wp2_with fail
    obtain ⟨q11, qc11⟩ := (T0.out.b2).set11 (.slice (some ⟨lb, 0, none⟩) (nS c t) lc) (.slice (some ⟨fb, 0, none⟩) (nG c t) fc) (.slice (some ⟨mb, 0, none⟩) (nG c t) mc) (.int .i64 (wordsOf c t)) (.slice ca c.cl.length cc) (.int .i64 n) (.slice none 0 0) (.slice (some ⟨W0.heap.size, 0, none⟩) (nS c t) (nS c t)) (.slice (some ⟨W0.heap.size + 1, 0, none⟩) (nG c t) (nG c t)) (.int .i64 (-1)) (.int .i64 0) _ rfl
    obtain ⟨k1, k2, k3, k4⟩ := made_two (n1 := nS c t) (n2 := nG c t) q11 (S := W0.heap.size) (by simp) 4 4
    have q0 := k1.c 0 _ rfl; have q1 := k1.c 1 _ rfl; have q2 := k1.c 2 _ rfl; have q3 := k1.c 3 _ rfl; have q4 := k1.c 4 _ rfl; have q5 := k1.c 5 _ rfl; have q6 := k1.c 6 _ rfl; have q7 := k1.c 7 _ rfl; have q8 := k1.c 8 _ rfl; have q9 := k1.c 9 _ rfl; have q10 := k1.c 10 _ rfl
    have hz' := T0.out.hz
    have h0 := T0.out.ext.size
    have tl := T0.out.lt.2
    have ex := (qc11.over T0.out.ext (fun k e => by omega)).trans k4
    refine bodyPost_ret (v := .agg #[.slice (some ⟨lb, 0, none⟩) (nS c t) lc, .slice (some ⟨fb, 0, none⟩) (nG c t) fc, .slice (some ⟨mb, 0, none⟩) (nG c t) mc, .int .i64 (wordsOf c t), .slice ca c.cl.length cc, .int .i64 n, .slice none 0 0, .slice (some ⟨W0.heap.size, 0, none⟩) (nS c t) (nS c t), .slice (some ⟨W0.heap.size + 1, 0, none⟩) (nG c t) (nG c t), .int .i64 (-1), .int .i64 0]) (by simp [results, Tryd.results50, go_sem, Act.put, q0, q1, q2, q3, q4, q5, q6, q7, q8, q9, q10]) rfl ⟨[.slice (some ⟨lb, 0, none⟩) (nS c t) lc, .slice (some ⟨fb, 0, none⟩) (nG c t) fc, .slice (some ⟨mb, 0, none⟩) (nG c t) mc, .int .i64 (wordsOf c t), .slice ca c.cl.length cc, .int .i64 n, .slice none 0 0, .slice (some ⟨W0.heap.size, 0, none⟩) (nS c t) (nS c t), .slice (some ⟨W0.heap.size + 1, 0, none⟩) (nG c t) (nG c t), .int .i64 (-1), .int .i64 0], rfl, ⟨lb, lc, fb, fc, mb, mc, ca, cc, none, 0, some ⟨W0.heap.size, 0, none⟩, nS c t, some ⟨W0.heap.size + 1, 0, none⟩, nG c t, -1, 0, by unfold gvs clearG; simp, ⟨H.out.ext ex, H1.out, H2.out, At.nil, k2, k3, fun h0 => absurd h0 (Nat.lt_irrefl 0), fun x o e hp => ?_, fun x o e hp => ?_, fun _ => rfl, clearG_ok n, hn, .inl ⟨rfl, rfl, rfl⟩⟩⟩, ex⟩
    · cases e
      have := HP.out _ hp
      omega
    · cases e
      have := HP.out _ hp
      omega
  · clear v0 v1 v2 v3 v4 r0 r1 r2 r3 r4 r5 r6 r7 r8 r9 r10 k0 k1 k2 k3 k4 k5 k6 k7 k8 k9 k10 bz bz1 mk1 mk2
    go_wp2_with fail
    obtain ⟨q11, qc11⟩ := (T0.out.b2).set11 (.slice (some ⟨lb, 0, none⟩) (nS c t) lc) (.slice (some ⟨fb, 0, none⟩) (nG c t) fc) (.slice (some ⟨mb, 0, none⟩) (nG c t) mc) (.int .i64 (wordsOf c t)) (.slice ca c.cl.length cc) (.int .i64 n) (.slice none 0 0) (.slice (some ⟨W0.heap.size + 1, 0, none⟩) (nS c t) (nS c t)) (.slice (some ⟨W0.heap.size, 0, none⟩) (nG c t) (nG c t)) (.int .i64 (-1)) (.int .i64 0) _ rfl
    obtain ⟨k1, k2, k3, k4⟩ := made_two (n1 := nG c t) (n2 := nS c t) q11 (S := W0.heap.size) (by simp) 4 4
    have q0 := k1.c 0 _ rfl; have q1 := k1.c 1 _ rfl; have q2 := k1.c 2 _ rfl; have q3 := k1.c 3 _ rfl; have q4 := k1.c 4 _ rfl; have q5 := k1.c 5 _ rfl; have q6 := k1.c 6 _ rfl; have q7 := k1.c 7 _ rfl; have q8 := k1.c 8 _ rfl; have q9 := k1.c 9 _ rfl; have q10 := k1.c 10 _ rfl
    have hz' := T0.out.hz
    have h0 := T0.out.ext.size
    have tl := T0.out.lt.2
    have ex := (qc11.over T0.out.ext (fun k e => by omega)).trans k4
    refine bodyPost_ret (v := .agg #[.slice (some ⟨lb, 0, none⟩) (nS c t) lc, .slice (some ⟨fb, 0, none⟩) (nG c t) fc, .slice (some ⟨mb, 0, none⟩) (nG c t) mc, .int .i64 (wordsOf c t), .slice ca c.cl.length cc, .int .i64 n, .slice none 0 0, .slice (some ⟨W0.heap.size + 1, 0, none⟩) (nS c t) (nS c t), .slice (some ⟨W0.heap.size, 0, none⟩) (nG c t) (nG c t), .int .i64 (-1), .int .i64 0]) (by simp [results, Tryd.results50, go_sem, Act.put, q0, q1, q2, q3, q4, q5, q6, q7, q8, q9, q10]) rfl ⟨[.slice (some ⟨lb, 0, none⟩) (nS c t) lc, .slice (some ⟨fb, 0, none⟩) (nG c t) fc, .slice (some ⟨mb, 0, none⟩) (nG c t) mc, .int .i64 (wordsOf c t), .slice ca c.cl.length cc, .int .i64 n, .slice none 0 0, .slice (some ⟨W0.heap.size + 1, 0, none⟩) (nS c t) (nS c t), .slice (some ⟨W0.heap.size, 0, none⟩) (nG c t) (nG c t), .int .i64 (-1), .int .i64 0], rfl, ⟨lb, lc, fb, fc, mb, mc, ca, cc, none, 0, some ⟨W0.heap.size + 1, 0, none⟩, nS c t, some ⟨W0.heap.size, 0, none⟩, nG c t, -1, 0, by unfold gvs clearG; simp, ⟨H.out.ext ex, H1.out, H2.out, At.nil, k3, k2, fun h0 => absurd h0 (Nat.lt_irrefl 0), fun x o e hp => ?_, fun x o e hp => ?_, fun _ => rfl, clearG_ok n, hn, .inl ⟨rfl, rfl, rfl⟩⟩⟩, ex⟩
    · cases e
      have := HP.out _ hp
      omega
    · cases e
      have := HP.out _ hp
      omega

end Go.Proofs.YtlhajoamebfniaaDoor

/-! arena: each: its contract as an iterator. -/
namespace Go.Proofs.YtlhajoamebfniaaDoor
open Go.RowKit Go.Shelf
attribute [local go_sem] Oper.semAt_some

/-- What a round may be handed: a position whose bit is 1. -/
abbrev OneBit (r : List Bool) := { i : Nat // i < r.length ∧ bnth r i = true }
def encB {r : List Bool} (x : OneBit r) : Array Value := #[.int .i64 (x.1 : Int)]
/-- The positions below n whose bits are 1. -/
def onesTo (r : List Bool) : Nat → List (OneBit r)
  | 0 => []
  | n + 1 => onesTo r n ++ if h : n < r.length ∧ bnth r n = true then [⟨n, h⟩] else []
theorem onesTo_len (r : List Bool) : ∀ n, (onesTo r n).length ≤ n
  | 0 => Nat.le_refl _
  | n + 1 => by
    have := onesTo_len r n
    rw [onesTo, List.length_append]
    split <;> simp <;> omega
theorem onesTo_hit {r : List Bool} {n : Nat} (h : n < r.length ∧ bnth r n = true) : onesTo r (n + 1) = onesTo r n ++ [⟨n, h⟩] := by rw [onesTo, dif_pos h]
theorem onesTo_gap {r : List Bool} {n m : Nat} (hnm : n ≤ m) (h : ∀ j, n ≤ j → j < m → bnth r j = false) : onesTo r m = onesTo r n := by
  induction m with
  | zero => obtain rfl : n = 0 := by omega
            rfl
  | succ m ih =>
    rcases Nat.lt_or_ge m n with g | g
    · obtain rfl : n = m + 1 := by omega
      rfl
    · rw [onesTo, ih g fun j h1 h2 => h j h1 (by omega), dif_neg (by rw [h m g (by omega)]; simp), List.append_nil]
theorem onesTo_mem {r : List Bool} {x : OneBit r} : ∀ {n : Nat}, x ∈ onesTo r n ↔ x.1 < n
  | 0 => by simp [onesTo]
  | n + 1 => by
    rw [onesTo, List.mem_append, onesTo_mem]
    by_cases h : n < r.length ∧ bnth r n = true
    · rw [dif_pos h, List.mem_singleton]
      constructor
      · rintro (h1 | rfl)
        · omega
        · exact Nat.lt_succ_self _
      · intro h1
        rcases Nat.lt_or_ge x.1 n with g | g
        · exact .inl g
        · exact .inr (Subtype.ext (show x.1 = n by omega))
    · rw [dif_neg h]
      simp only [List.not_mem_nil, or_false]
      constructor
      · omega
      · intro h1
        rcases Nat.lt_or_ge x.1 n with g | g
        · exact g
        · have e : x.1 = n := by omega
          exact absurd (e ▸ x.2) h

theorem isNext_step {r : List Bool} {n : Nat} {p : Int} (h : IsNext r n true p true) : ∃ i : Nat, p = i ∧ n ≤ i ∧ ∃ h : i < r.length ∧ bnth r i = true, onesTo r (i + 1) = onesTo r n ++ [⟨i, h⟩] := by
  rcases h with ⟨_, i, rfl, h1, h2, h3, h4⟩ | ⟨h, _⟩
  · refine ⟨i, rfl, by omega, ⟨h2, h3⟩, ?_⟩
    rw [onesTo_hit ⟨h2, h3⟩, onesTo_gap (n := n) (by omega) fun j h5 h6 => h4 j (by omega) h6]
  · cases h
theorem isNext_end {r : List Bool} {n : Nat} {p : Int} (hn : n ≤ r.length) (h : IsNext r n true p false) : onesTo r r.length = onesTo r n := by
  rcases h with ⟨h, _⟩ | ⟨_, _, h⟩
  · cases h
  · exact onesTo_gap hn fun j h1 h2 => h j (by omega) h2
theorem Tab.chg {Q : Nat → Prop} {w w' : World} (h : Tab w) (hx : Chg Q w w') (hq : ¬ Q 0) : Tab w' := fun j hj => hx.cell hq (h j hj)

set_option maxRecDepth 100000 in
set_option maxHeartbeats 16000000 in
theorem each1_in (n : Nat) (hn : 1 ≤ n) (l Bl rb rg : Nat) {r : List Bool} (Q : Nat → Prop) (q0 : ¬ Q Bl) (q1 : ¬ Q rb) (q2 : ¬ Q rg) (q3 : ¬ Q 0) (J Jx : List (OneBit r) → World → Prop) (hJe : ∀ pre V V', J pre V → Ext V V' → J pre V')
    (hY : ∀ pre x W, J pre W → pre.length < r.length → YieldAt Fence.wide (n - 1) Tryd.prog l (encB x) W fun e W' =>
      (e = .returned (.bool true) ∧ J (pre ++ [x]) W' ∧ Chg Q W W') ∨ (e = .returned (.bool false) ∧ Jx (pre ++ [x]) W'))
    (W : World) (cl : W.cell? ⟨Bl, 0, none⟩ = some (.pointer (some ⟨rb, 0, none⟩))) (hR : RowAt W rb rg r) (hT : Tab W) (h0 : J [] W) :
    CallsIn Fence.wide n Tryd.prog 95 #[.func (.yield l) #[] #[], .pointer (some ⟨Bl, 0, none⟩)] W fun e W' => (∃ v, e = .returned v) ∧
      ((∃ ys, ys = onesTo r r.length ∧ J ys W') ∨ (∃ pre, (∃ j, j ≤ r.length ∧ pre = onesTo r j) ∧ Jx pre W')) := by
  have most := hR.most
  have HY := Lib.hid hY; have JE := Lib.hid hJe; have H0 := Lib.hid h0; have HR := Lib.hid hR; have HT := Lib.hid hT; have CL := Lib.hid cl
  obtain ⟨p, q, hnx⟩ := next_exists r ((0 : Nat) : Int) true
  have NX := Lib.hid hnx
  clear hY hJe h0 hR hT hnx
  refine callsIn_of_wp Tryd.func95 rfl trivial ?_ rfl
  simp only [Tryd.ntmps95, List.size_toArray, List.length_cons, List.length_nil, Nat.reduceAdd, Nat.reduceSub, Array.replicate_succ, Array.replicate_zero, List.push_toArray, List.append_toArray, List.nil_append, List.cons_append]
  gi_wp2_with (first
    | (refine ⟨trivial, ?_⟩; gi_at_call 54; refine (callsIn_wide.2 (row_Next r p q HR.out HT.out NX.out)).mono ?_; rintro e W1 ⟨rfl, x1⟩; have X1 := Lib.hid x1))
  gi_loopw [3, 4] (fun iv qv wr => ∃ (m : Nat) (p : Int) (q : Bool), m ≤ r.length ∧ iv = .int .i64 p ∧ qv = .bool q ∧ Hid (IsNext r m true p q) ∧ Hid (J (onesTo r m) wr) ∧ Hid (Chg Q W wr)) (fun iv qv _ => match qv with | .bool true => r.length - (intOf iv).toNat + 1 | _ => 0)
  case atStart => exact ⟨0, p, q, Nat.zero_le _, rfl, rfl, NX, Lib.hid (JE.out _ _ _ H0.out X1.out), Lib.hid (Chg.of_ext X1.out)⟩
  case round =>
    obtain ⟨m, p, q, hm, rfl, rfl, NX, HJ, HC⟩ := hrel
    cases q
    · have he := isNext_end hm NX.out
      have HE := Lib.hid he
      clear he
      gi_wp2
      go_end0
      exact ⟨⟨_, rfl⟩, .inl ⟨_, rfl, HE.out ▸ HJ.out⟩⟩
    · obtain ⟨i, rfl, hmi, hi, he⟩ := isNext_step NX.out
      have hlt : (onesTo r m).length < r.length := by have := onesTo_len r m; omega
      have hi1 := hi.1
      have cl := HC.out.cell q0 CL.out
      have hy0 := HY.out _ ⟨i, hi⟩ wr HJ.out hlt
      have HE := Lib.hid he
      have ef : encB (r := r) ⟨i, hi⟩ = #[.int .i64 (i : Int)] := rfl
      rw [ef] at hy0
      obtain ⟨fn, tmps, assign, body, hy, hR⟩ := hy0
      clear ef he
      gi_wp2
      have hR2 := hR.mono (R' := fun e W' => ∃ bb : Bool, e = .returned (.bool bb) ∧ Hid ((bb = true ∧ J (onesTo r m ++ [⟨i, hi⟩]) W' ∧ Chg Q wr W') ∨ (bb = false ∧ Jx (onesTo r m ++ [⟨i, hi⟩]) W'))) (fun e W' h => by
        rcases h with ⟨rfl, h1, h2⟩ | ⟨rfl, h1⟩
        · exact ⟨true, rfl, .inl ⟨rfl, h1, h2⟩⟩
        · exact ⟨false, rfl, .inr ⟨rfl, h1⟩⟩)
      clear hR
      refine hR2.mono ?_
      rintro e W4 ⟨bb, rfl, hbb⟩
      clear hR2 hy
      rcases hbb.out with ⟨rfl, hJ3, hk3⟩ | ⟨rfl, hJx3⟩
      · obtain ⟨p', q', hnx⟩ := next_exists r ((i + 1 : Nat) : Int) true
        have HJ3 := Lib.hid hJ3; have HK3 := Lib.hid (HC.out.trans hk3)
        have hr4 := HR.out.chg HK3.out q1 fun _ => q2
        have ht4 := HT.out.chg HK3.out q3
        have cl4 := HK3.out.cell q0 CL.out
        have hnx' := hnx
        rw [show ((i + 1 : Nat) : Int) = (i : Int) + 1 from rfl] at hnx'
        have NN := Lib.hid hnx
        have CN := Lib.hid (row_Next r p' q' hr4 ht4 hnx')
        clear hbb hJ3 hk3 hr4 ht4 hnx hnx'
        gi_wp2_with (first
          | (refine ⟨trivial, ?_⟩; gi_at_call 54; refine (callsIn_wide.2 CN.out).mono ?_; rintro e W5 ⟨rfl, x5⟩; have X5 := Lib.hid x5))
        go_roundw
        case rel => exact ⟨i + 1, p', q', by omega, rfl, rfl, NN, Lib.hid (by rw [HE.out]; exact JE.out _ _ _ HJ3.out X5.out), Lib.hid (HK3.out.trans (Chg.of_ext X5.out))⟩
        case measure =>
          cases q'
          · simp [intOf]
          · obtain ⟨i', rfl, h1, h2, _⟩ := isNext_step NN.out
            have := h2.1
            simp [intOf]; omega
      · have HX3 := Lib.hid hJx3
        clear hbb hJx3
        gi_wp2
        refine bodyPost_ret (results_none rfl _ _ _) rfl ?_
        exact ⟨⟨_, rfl⟩, .inr ⟨_, ⟨i + 1, hi.1, HE.out.symm⟩, HX3.out⟩⟩

end Go.Proofs.YtlhajoamebfniaaDoor
