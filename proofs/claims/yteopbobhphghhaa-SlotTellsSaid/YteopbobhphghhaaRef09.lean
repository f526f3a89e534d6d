/-
  commonageref09: the document's plan: its shape, and what New's loops keep.
-/
import Derived.Test.YteopbobhphghhaaSlotT
import Derived.Test.YteopbobhphghhaaOwnI
import Derived.Test.YteopbobhphghhaaRef06
namespace Go.Proofs.Yteopbobhphghhaa
open Go.RowKit

/-- How many slots, pages a plan has. -/
def nS (c : Conf) (t : Nat) : Nat := (sS c t c.cl.length).toNat
def nG (c : Conf) (t : Nat) : Nat := (sG c t c.cl.length).toNat
theorem KOk.nS_eq {c : Conf} (h : KOk c) {t : Nat} (ht : t < c.ts.length) : (nS c t : Int) = sS c t c.cl.length := by
  have := (h.sS_le ht (Nat.le_refl _)).1
  unfold nS; omega
theorem KOk.nG_eq {c : Conf} (h : KOk c) {t : Nat} (ht : t < c.ts.length) : (nG c t : Int) = sG c t c.cl.length := by
  have := (h.sG_le ht (Nat.le_refl _)).1
  unfold nG; omega

/-- The document's plan in the memory: its slots from lb on, its pages' first slots, and how many they have. -/
structure DPlan (w : World) (lb fb mb : Nat) (ca : Option Addr) (c : Conf) (t : Nat) : Prop where
  ok : KOk c
  ti : t < c.ts.length
  l : ∀ s, s < nS c t → ∀ j u, (slc c t (s : Int))[j]? = some u → w.cell? ⟨lb, s * 4 + j, none⟩ = some u
  f : At .i64 w (some ⟨fb, 0, none⟩) (firsts c t (nG c t))
  m : At .i64 w (some ⟨mb, 0, none⟩) (manys c t (nG c t))
  k : At .i64 w ca c.cl
/-- The plan's value. -/
def dpv (lb lc fb fc mb mc : Nat) (ca : Option Addr) (cc : Nat) (c : Conf) (t : Nat) : Value :=
  .agg #[.slice (some ⟨lb, 0, none⟩) (nS c t) lc, .slice (some ⟨fb, 0, none⟩) (nG c t) fc, .slice (some ⟨mb, 0, none⟩) (nG c t) mc, .int .i64 (wordsOf c t), .slice ca c.cl.length cc]
theorem DPlan.chg {P : Nat → Prop} {w w' : World} {lb fb mb : Nat} {ca : Option Addr} {c : Conf} {t : Nat} (h : DPlan w lb fb mb ca c t) (hx : Ext w w') : DPlan w' lb fb mb ca c t :=
  ⟨h.ok, h.ti, fun s hs j u hu => hx.cell (h.l s hs j u hu), h.f.ext hx, h.m.ext hx, h.k.ext hx⟩
theorem DPlan.ext {w w' : World} {lb fb mb : Nat} {ca : Option Addr} {c : Conf} {t : Nat} (h : DPlan w lb fb mb ca c t) (hx : Ext w w') : DPlan w' lb fb mb ca c t :=
  ⟨h.ok, h.ti, fun s hs j u hu => hx.cell (h.l s hs j u hu), h.f.ext hx, h.m.ext hx, h.k.ext hx⟩

/-- What New's loops keep: slots, first slots, numbers so far. -/
structure DocR (w0 : World) (c : Conf) (t b n p q : Nat) (ca : Option Addr) (cc : Nat) (wo : Int) (lv fv mv : Value) (wr : World) : Prop where
  c0 : wr.cell? ⟨b, 0, none⟩ = some lv
  c1 : wr.cell? ⟨b, 1, none⟩ = some fv
  c2 : wr.cell? ⟨b, 2, none⟩ = some mv
  c3 : wr.cell? ⟨b, 3, none⟩ = some (.int .i64 wo)
  c4 : wr.cell? ⟨b, 4, none⟩ = some (.slice ca c.cl.length cc)
  ol : wr.ownsRow (b + 1) 109 4 lv n (slcs c t n)
  of : wr.ownsRow (b + 1) 3 1 fv p (ncs .i64 (firsts c t p))
  om : wr.ownsRow (b + 1) 3 1 mv q (ncs .i64 (manys c t q))
  nfm : ∀ g, fv.ownBlock = some g → mv.ownBlock ≠ some g
  fz : ∀ o, wr.frozen? ⟨b, o, none⟩ = false
  lo : w0.heap.size ≤ b
  ext : Ext w0 wr
variable {w0 wr w3 W w4 w' : World} {c : Conf} {t b n p q : Nat} {ca : Option Addr} {cc : Nat} {wo : Int} {lv fv mv V : Value}
theorem DocR.go (h : DocR w0 c t b n p q ca cc wo lv fv mv wr) (hx : Ext wr w') : DocR w0 c t b n p q ca cc wo lv fv mv w' :=
  ⟨hx.cell h.c0, hx.cell h.c1, hx.cell h.c2, hx.cell h.c3, hx.cell h.c4, own_ext h.ol hx, own_ext h.of hx, own_ext h.om hx, h.nfm, fun o => by rw [hx.frozen (p := ⟨b, o, none⟩) (show b < wr.heap.size from cell_lt h.c0)]; exact h.fz o, h.lo, h.ext.trans hx⟩
/-- Rows of other kinds have blocks of their own. -/
theorem own_ne {w : World} {base e e' s s' k k' : Nat} {v v' : Value} {xs xs' : List Value} (h : w.ownsRow base e s v k xs) (h' : w.ownsRow base e' s' v' k' xs') (hne : e ≠ e') : v.ownBlock = none ∨ v.ownBlock ≠ v'.ownBlock := by
  rcases h.2 with ⟨rfl, _⟩ | ⟨g, cap, cur, rfl, _, hh, _⟩
  · exact .inl rfl
  · refine .inr fun e0 => ?_
    rcases h'.2 with ⟨rfl, _⟩ | ⟨g', cap', cur', rfl, _, hh', _⟩
    · cases e0
    · have : g = g' := by simpa [Value.ownBlock] using e0
      subst this
      rw [hh] at hh'
      injection hh' with e1
      injection e1 with _ e2 _
      exact hne e2
theorem DocR.nb (h : DocR w0 c t b n p q ca cc wo lv fv mv wr) {v : Value} {e s k : Nat} {xs : List Value} (hv : wr.ownsRow (b + 1) e s v k xs) : some b ≠ v.ownBlock := fun e => by
  have := (hv.lt b e.symm).1; omega
/-- The cells of the box behind an append. -/
theorem DocR.grown (h : DocR w0 c t b n p q ca cc wo lv fv mv w3) {v : Value} {e s k : Nat} {xs : List Value} (hv : w3.ownsRow (b + 1) e s v k xs) (hx : Ext w3 W) (hg : W.grownBy w4 v.ownBlock) :
    w4.cell? ⟨b, 0, none⟩ = some lv ∧ w4.cell? ⟨b, 1, none⟩ = some fv ∧ w4.cell? ⟨b, 2, none⟩ = some mv ∧ w4.cell? ⟨b, 3, none⟩ = some (.int .i64 wo) ∧ w4.cell? ⟨b, 4, none⟩ = some (.slice ca c.cl.length cc) ∧ (∀ o, w4.frozen? ⟨b, o, none⟩ = false) ∧ Ext w0 w4 := by
  have n0 := h.nb hv
  have hl : b < w3.heap.size := cell_lt h.c0
  refine ⟨grow_cell hg hx h.c0 n0, grow_cell hg hx h.c1 n0, grow_cell hg hx h.c2 n0, grow_cell hg hx h.c3 n0, grow_cell hg hx h.c4 n0, fun o => ?_, (h.ext.trans hx).grown hg fun k' e => by have := (hv.lt k' e).1; have := h.lo; omega⟩
  rw [hg.frozen_far _ (Nat.lt_of_lt_of_le hl hx.size) n0, hx.frozen (p := ⟨b, o, none⟩) hl]; exact h.fz o
theorem set_same {w : World} {b i : Nat} {u v : Value} (hc : w.cell? ⟨b, i, none⟩ = some v) : (w.setCell ⟨b, i, none⟩ u).cell? ⟨b, i, none⟩ = some u := World.cell?_setCell_same w _ _ hc
theorem set_oth {w : World} {b i j : Nat} {u v : Value} (h : i ≠ j) (hc : w.cell? ⟨b, j, none⟩ = some v) : (w.setCell ⟨b, i, none⟩ u).cell? ⟨b, j, none⟩ = some v := by
  have := World.cell?_setCell_other w ⟨b, i, none⟩ ⟨b, j, none⟩ u (by intro e; cases e; exact h rfl)
  rw [this]; exact hc
/-- One more slot. -/
theorem DocR.pushL (h : DocR w0 c t b n p q ca cc wo lv fv mv w3) (hx : Ext w3 W) (hg : W.grownBy w4 lv.ownBlock) (hown : w4.ownsRow (b + 1) 109 4 V (n + 1) (slcs c t (n + 1))) :
    DocR w0 c t b (n + 1) p q ca cc wo V fv mv (w4.setCell ⟨b, 0, none⟩ V) := by
  obtain ⟨q0, q1, q2, q3, q4, qf, qe⟩ := h.grown h.ol hx hg
  have kf := (own_ext h.of hx).kept hg (own_ne h.of h.ol (by decide))
  have km := (own_ext h.om hx).kept hg (own_ne h.om h.ol (by decide))
  exact ⟨set_same q0, set_oth (by decide) q1, set_oth (by decide) q2, set_oth (by decide) q3, set_oth (by decide) q4, own_setCell hown (p := ⟨b, 0, none⟩) (Nat.lt_succ_self b) _, own_setCell kf (p := ⟨b, 0, none⟩) (Nat.lt_succ_self b) _, own_setCell km (p := ⟨b, 0, none⟩) (Nat.lt_succ_self b) _, h.nfm,
    fun o => by simpa using qf o, h.lo, qe.setCell (p := ⟨b, 0, none⟩) h.lo _⟩
/-- One more first slot. -/
theorem DocR.pushF (h : DocR w0 c t b n p q ca cc wo lv fv mv w3) (hx : Ext w3 W) (hg : W.grownBy w4 fv.ownBlock) (hown : w4.ownsRow (b + 1) 3 1 V (p + 1) (ncs .i64 (firsts c t (p + 1)))) (hV : ∀ g, V.ownBlock = some g → fv.ownBlock = some g ∨ W.heap.size ≤ g) :
    DocR w0 c t b n (p + 1) q ca cc wo lv V mv (w4.setCell ⟨b, 1, none⟩ V) := by
  obtain ⟨q0, q1, q2, q3, q4, qf, qe⟩ := h.grown h.of hx hg
  have nm : mv.ownBlock = none ∨ mv.ownBlock ≠ fv.ownBlock := by
    cases e : mv.ownBlock with
    | none => exact .inl rfl
    | some g => exact .inr fun e' => h.nfm g e'.symm e
  have kl := (own_ext h.ol hx).kept hg (own_ne h.ol h.of (by decide))
  have km := (own_ext h.om hx).kept hg nm
  refine ⟨set_oth (by decide) q0, set_same q1, set_oth (by decide) q2, set_oth (by decide) q3, set_oth (by decide) q4, own_setCell kl (p := ⟨b, 1, none⟩) (Nat.lt_succ_self b) _, own_setCell hown (p := ⟨b, 1, none⟩) (Nat.lt_succ_self b) _, own_setCell km (p := ⟨b, 1, none⟩) (Nat.lt_succ_self b) _, fun g e e' => ?_,
    fun o => by simpa using qf o, h.lo, qe.setCell (p := ⟨b, 1, none⟩) h.lo _⟩
  rcases hV g e with h1 | h1
  · exact h.nfm g h1 e'
  · have := (h.om.lt g e').2; have := hx.size; omega
/-- One more number. -/
theorem DocR.pushM (h : DocR w0 c t b n p q ca cc wo lv fv mv w3) (hx : Ext w3 W) (hg : W.grownBy w4 mv.ownBlock) (hown : w4.ownsRow (b + 1) 3 1 V (q + 1) (ncs .i64 (manys c t (q + 1)))) (hV : ∀ g, V.ownBlock = some g → mv.ownBlock = some g ∨ W.heap.size ≤ g) :
    DocR w0 c t b n p (q + 1) ca cc wo lv fv V (w4.setCell ⟨b, 2, none⟩ V) := by
  obtain ⟨q0, q1, q2, q3, q4, qf, qe⟩ := h.grown h.om hx hg
  have nm : fv.ownBlock = none ∨ fv.ownBlock ≠ mv.ownBlock := by
    cases e : fv.ownBlock with
    | none => exact .inl rfl
    | some g => exact .inr fun e' => h.nfm g e e'.symm
  have kl := (own_ext h.ol hx).kept hg (own_ne h.ol h.om (by decide))
  have kf := (own_ext h.of hx).kept hg nm
  refine ⟨set_oth (by decide) q0, set_oth (by decide) q1, set_same q2, set_oth (by decide) q3, set_oth (by decide) q4, own_setCell kl (p := ⟨b, 2, none⟩) (Nat.lt_succ_self b) _, own_setCell kf (p := ⟨b, 2, none⟩) (Nat.lt_succ_self b) _, own_setCell hown (p := ⟨b, 2, none⟩) (Nat.lt_succ_self b) _, fun g e e' => ?_,
    fun o => by simpa using qf o, h.lo, qe.setCell (p := ⟨b, 2, none⟩) h.lo _⟩
  rcases hV g e' with h1 | h1
  · exact h.nfm g e h1
  · have := (h.of.lt g e).2; have := hx.size; omega
theorem DocR.start (h0 : wr.cell? ⟨b, 0, none⟩ = some (.slice none 0 0)) (h1 : wr.cell? ⟨b, 1, none⟩ = some (.slice none 0 0)) (h2 : wr.cell? ⟨b, 2, none⟩ = some (.slice none 0 0)) (h3 : wr.cell? ⟨b, 3, none⟩ = some (.int .i64 wo)) (h4 : wr.cell? ⟨b, 4, none⟩ = some (.slice ca c.cl.length cc)) (hf : ∀ o, wr.frozen? ⟨b, o, none⟩ = false) (lo : w0.heap.size ≤ b) (hx : Ext w0 wr) :
    DocR w0 c t b 0 0 0 ca cc wo (.slice none 0 0) (.slice none 0 0) (.slice none 0 0) wr :=
  ⟨h0, h1, h2, h3, h4, World.ownsRow_nil _ _ _ _, World.ownsRow_nil _ _ _ _, World.ownsRow_nil _ _ _ _, fun _ e => (by cases e), hf, lo, hx⟩
theorem KOk.nG_pos (h : KOk c) (ht : t < c.ts.length) : 1 ≤ nG c t := by
  have h1 := h.nG_eq ht
  have h2 := (h.sG_le ht (k := c.cl.length) (Nat.le_refl _)).1
  have h3 := h.cl.pos
  have := sG_mono h ht (a := 0) (b := c.cl.length) (by omega) (Nat.le_refl _)
  have : sG c t 0 = 0 := rfl
  omega
theorem KOk.nS_pos (h : KOk c) (ht : t < c.ts.length) : 1 ≤ nS c t := by
  have h1 := h.nS_eq ht
  have h3 := h.cl.pos
  have := sS_mono h ht (a := 0) (b := c.cl.length) (by omega) (Nat.le_refl _)
  have : sS c t 0 = 0 := rfl
  omega
theorem DocR.plan (h : DocR w0 c t b (nS c t) (nG c t) (nG c t) ca cc wo lv fv mv wr) (ho : KOk c) (ht : t < c.ts.length) (hk : At .i64 wr ca c.cl) :
    ∃ lb lc fb fc mb mc, lv = .slice (some ⟨lb, 0, none⟩) (nS c t) lc ∧ fv = .slice (some ⟨fb, 0, none⟩) (nG c t) fc ∧ mv = .slice (some ⟨mb, 0, none⟩) (nG c t) mc ∧ DPlan wr lb fb mb ca c t ∧ b < lb ∧ b < fb ∧ b < mb := by
  obtain ⟨lb, lc, rfl, hl, _⟩ := h.ol.form (by have := ho.nS_pos ht; omega)
  obtain ⟨fb, fc, e1, f1, _, _, _, _, f2, _⟩ := own_ints h.of (by have := ho.nG_pos ht; omega)
  obtain ⟨mb, mc, e2, m1, _, _, _, _, m2, _⟩ := own_ints h.om (by have := ho.nG_pos ht; omega)
  subst e1 e2
  refine ⟨lb, lc, fb, fc, mb, mc, rfl, rfl, rfl, ⟨ho, ht, fun s hs j u hu => ?_, f2, m2, hk⟩, hl, f1, m1⟩
  have hj : j < 4 := by have := (List.getElem?_eq_some_iff.1 hu).1; simpa [slc] using this
  rw [h.ol.cellAt _ (by omega), slcs_at c t _ s j hs hj]; exact hu

end Go.Proofs.Yteopbobhphghhaa
