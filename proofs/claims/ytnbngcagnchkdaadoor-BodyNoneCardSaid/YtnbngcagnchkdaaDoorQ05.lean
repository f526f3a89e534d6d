/-
  Merged texts: Ref09, BodyP, BoxG, PlanC, Slot.
-/
import Derived.Test.YtnbngcagnchkdaaDoorQ04
import Derived.Test.YtnbngcagnchkdaaDoorQ02
import Derived.Test.YtnbngcagnchkdaaDoorQ03
import Derived.Test.YtnbngcagnchkdaaDoorQ01
import Derived.Deep.RegionHeld3
import Derived.Deep.AppendLies
set_option linter.unusedVariables false
set_option linter.unusedSimpArgs false
/-! commonageref09: the document's plan: its shape, and what New's loops keep. -/
namespace Go.Proofs.YtnbngcagnchkdaaDoor
open Go.RowKit

/-- How many slots, pages a plan has. -/
def nS (c : Conf) (t : Nat) : Nat := (sS c t c.cl.length).toNat
def nG (c : Conf) (t : Nat) : Nat := (sG c t c.cl.length).toNat
theorem KOk.nS_eq {c : Conf} (h : KOk c) {t : Nat} (ht : t < c.ts.length) : (nS c t : Int) = sS c t c.cl.length := by
  have := (h.sS_le ht (Nat.le_refl _)).1
  unfold nS; omega
theorem KOk.nG_eq {c : Conf} (h : KOk c) {t : Nat} (ht : t < c.ts.length) : (nG c t : Int) = sG c t c.cl.length := by
  have := (h.sG_le ht (Nat.le_refl _)).1
  unfold nG; omega

/-- The document's plan in the memory: its slots from lb on, its pages' first slots, and how many they have. -/
structure DPlan (w : World) (lb fb mb : Nat) (ca : Option Addr) (c : Conf) (t : Nat) : Prop where
  ok : KOk c
  ti : t < c.ts.length
  l : ∀ s, s < nS c t → ∀ j u, (slc c t (s : Int))[j]? = some u → w.cell? ⟨lb, s * 4 + j, none⟩ = some u
  f : At .i64 w (some ⟨fb, 0, none⟩) (firsts c t (nG c t))
  m : At .i64 w (some ⟨mb, 0, none⟩) (manys c t (nG c t))
  k : At .i64 w ca c.cl
/-- The plan's value. -/
def dpv (lb lc fb fc mb mc : Nat) (ca : Option Addr) (cc : Nat) (c : Conf) (t : Nat) : Value :=
  .agg #[.slice (some ⟨lb, 0, none⟩) (nS c t) lc, .slice (some ⟨fb, 0, none⟩) (nG c t) fc, .slice (some ⟨mb, 0, none⟩) (nG c t) mc, .int .i64 (wordsOf c t), .slice ca c.cl.length cc]
theorem DPlan.chg {P : Nat → Prop} {w w' : World} {lb fb mb : Nat} {ca : Option Addr} {c : Conf} {t : Nat} (h : DPlan w lb fb mb ca c t) (hx : Ext w w') : DPlan w' lb fb mb ca c t :=
  ⟨h.ok, h.ti, fun s hs j u hu => hx.cell (h.l s hs j u hu), h.f.ext hx, h.m.ext hx, h.k.ext hx⟩
theorem DPlan.ext {w w' : World} {lb fb mb : Nat} {ca : Option Addr} {c : Conf} {t : Nat} (h : DPlan w lb fb mb ca c t) (hx : Ext w w') : DPlan w' lb fb mb ca c t :=
  ⟨h.ok, h.ti, fun s hs j u hu => hx.cell (h.l s hs j u hu), h.f.ext hx, h.m.ext hx, h.k.ext hx⟩

/-- What New's loops keep: slots, first slots, numbers so far. -/
structure DocR (w0 : World) (c : Conf) (t b n p q : Nat) (ca : Option Addr) (cc : Nat) (wo : Int) (lv fv mv : Value) (wr : World) : Prop where
  c0 : wr.cell? ⟨b, 0, none⟩ = some lv
  c1 : wr.cell? ⟨b, 1, none⟩ = some fv
  c2 : wr.cell? ⟨b, 2, none⟩ = some mv
  c3 : wr.cell? ⟨b, 3, none⟩ = some (.int .i64 wo)
  c4 : wr.cell? ⟨b, 4, none⟩ = some (.slice ca c.cl.length cc)
  ol : wr.ownsRow (b + 1) 106 4 lv n (slcs c t n)
  of : wr.ownsRow (b + 1) 3 1 fv p (ncs .i64 (firsts c t p))
  om : wr.ownsRow (b + 1) 3 1 mv q (ncs .i64 (manys c t q))
  nfm : ∀ g, fv.ownBlock = some g → mv.ownBlock ≠ some g
  fz : ∀ o, wr.frozen? ⟨b, o, none⟩ = false
  lo : w0.heap.size ≤ b
  ext : Ext w0 wr
variable {w0 wr w3 W w4 w' : World} {c : Conf} {t b n p q : Nat} {ca : Option Addr} {cc : Nat} {wo : Int} {lv fv mv V : Value}
theorem DocR.go (h : DocR w0 c t b n p q ca cc wo lv fv mv wr) (hx : Ext wr w') : DocR w0 c t b n p q ca cc wo lv fv mv w' :=
  ⟨hx.cell h.c0, hx.cell h.c1, hx.cell h.c2, hx.cell h.c3, hx.cell h.c4, own_ext h.ol hx, own_ext h.of hx, own_ext h.om hx, h.nfm, fun o => by rw [hx.frozen (p := ⟨b, o, none⟩) (show b < wr.heap.size from cell_lt h.c0)]; exact h.fz o, h.lo, h.ext.trans hx⟩
/-- Rows of other kinds have blocks of their own. -/
theorem own_ne {w : World} {base e e' s s' k k' : Nat} {v v' : Value} {xs xs' : List Value} (h : w.ownsRow base e s v k xs) (h' : w.ownsRow base e' s' v' k' xs') (hne : e ≠ e') : v.ownBlock = none ∨ v.ownBlock ≠ v'.ownBlock := by
  rcases h.2 with ⟨rfl, _⟩ | ⟨g, cap, cur, rfl, _, hh, _⟩
  · exact .inl rfl
  · refine .inr fun e0 => ?_
    rcases h'.2 with ⟨rfl, _⟩ | ⟨g', cap', cur', rfl, _, hh', _⟩
    · cases e0
    · have : g = g' := by simpa [Value.ownBlock] using e0
      subst this
      rw [hh] at hh'
      injection hh' with e1
      injection e1 with _ e2 _
      exact hne e2
theorem DocR.nb (h : DocR w0 c t b n p q ca cc wo lv fv mv wr) {v : Value} {e s k : Nat} {xs : List Value} (hv : wr.ownsRow (b + 1) e s v k xs) : some b ≠ v.ownBlock := fun e => by
  have := (hv.lt b e.symm).1; omega
/-- The cells of the box behind an append. -/
theorem DocR.grown (h : DocR w0 c t b n p q ca cc wo lv fv mv w3) {v : Value} {e s k : Nat} {xs : List Value} (hv : w3.ownsRow (b + 1) e s v k xs) (hx : Ext w3 W) (hg : W.grownBy w4 v.ownBlock) :
    w4.cell? ⟨b, 0, none⟩ = some lv ∧ w4.cell? ⟨b, 1, none⟩ = some fv ∧ w4.cell? ⟨b, 2, none⟩ = some mv ∧ w4.cell? ⟨b, 3, none⟩ = some (.int .i64 wo) ∧ w4.cell? ⟨b, 4, none⟩ = some (.slice ca c.cl.length cc) ∧ (∀ o, w4.frozen? ⟨b, o, none⟩ = false) ∧ Ext w0 w4 := by
  have n0 := h.nb hv
  have hl : b < w3.heap.size := cell_lt h.c0
  refine ⟨grow_cell hg hx h.c0 n0, grow_cell hg hx h.c1 n0, grow_cell hg hx h.c2 n0, grow_cell hg hx h.c3 n0, grow_cell hg hx h.c4 n0, fun o => ?_, (h.ext.trans hx).grown hg fun k' e => by have := (hv.lt k' e).1; have := h.lo; omega⟩
  rw [hg.frozen_far _ (Nat.lt_of_lt_of_le hl hx.size) n0, hx.frozen (p := ⟨b, o, none⟩) hl]; exact h.fz o
theorem set_same {w : World} {b i : Nat} {u v : Value} (hc : w.cell? ⟨b, i, none⟩ = some v) : (w.setCell ⟨b, i, none⟩ u).cell? ⟨b, i, none⟩ = some u := World.cell?_setCell_same w _ _ hc
theorem set_oth {w : World} {b i j : Nat} {u v : Value} (h : i ≠ j) (hc : w.cell? ⟨b, j, none⟩ = some v) : (w.setCell ⟨b, i, none⟩ u).cell? ⟨b, j, none⟩ = some v := by
  have := World.cell?_setCell_other w ⟨b, i, none⟩ ⟨b, j, none⟩ u (by intro e; cases e; exact h rfl)
  rw [this]; exact hc
/-- One more slot. -/
theorem DocR.pushL (h : DocR w0 c t b n p q ca cc wo lv fv mv w3) (hx : Ext w3 W) (hg : W.grownBy w4 lv.ownBlock) (hown : w4.ownsRow (b + 1) 106 4 V (n + 1) (slcs c t (n + 1))) :
    DocR w0 c t b (n + 1) p q ca cc wo V fv mv (w4.setCell ⟨b, 0, none⟩ V) := by
  obtain ⟨q0, q1, q2, q3, q4, qf, qe⟩ := h.grown h.ol hx hg
  have kf := (own_ext h.of hx).kept hg (own_ne h.of h.ol (by decide))
  have km := (own_ext h.om hx).kept hg (own_ne h.om h.ol (by decide))
  exact ⟨set_same q0, set_oth (by decide) q1, set_oth (by decide) q2, set_oth (by decide) q3, set_oth (by decide) q4, own_setCell hown (p := ⟨b, 0, none⟩) (Nat.lt_succ_self b) _, own_setCell kf (p := ⟨b, 0, none⟩) (Nat.lt_succ_self b) _, own_setCell km (p := ⟨b, 0, none⟩) (Nat.lt_succ_self b) _, h.nfm,
    fun o => by simpa using qf o, h.lo, qe.setCell (p := ⟨b, 0, none⟩) h.lo _⟩
/-- One more first slot. -/
theorem DocR.pushF (h : DocR w0 c t b n p q ca cc wo lv fv mv w3) (hx : Ext w3 W) (hg : W.grownBy w4 fv.ownBlock) (hown : w4.ownsRow (b + 1) 3 1 V (p + 1) (ncs .i64 (firsts c t (p + 1)))) (hV : ∀ g, V.ownBlock = some g → fv.ownBlock = some g ∨ W.heap.size ≤ g) :
    DocR w0 c t b n (p + 1) q ca cc wo lv V mv (w4.setCell ⟨b, 1, none⟩ V) := by
  obtain ⟨q0, q1, q2, q3, q4, qf, qe⟩ := h.grown h.of hx hg
  have nm : mv.ownBlock = none ∨ mv.ownBlock ≠ fv.ownBlock := by
    cases e : mv.ownBlock with
    | none => exact .inl rfl
    | some g => exact .inr fun e' => h.nfm g e'.symm e
  have kl := (own_ext h.ol hx).kept hg (own_ne h.ol h.of (by decide))
  have km := (own_ext h.om hx).kept hg nm
  refine ⟨set_oth (by decide) q0, set_same q1, set_oth (by decide) q2, set_oth (by decide) q3, set_oth (by decide) q4, own_setCell kl (p := ⟨b, 1, none⟩) (Nat.lt_succ_self b) _, own_setCell hown (p := ⟨b, 1, none⟩) (Nat.lt_succ_self b) _, own_setCell km (p := ⟨b, 1, none⟩) (Nat.lt_succ_self b) _, fun g e e' => ?_,
    fun o => by simpa using qf o, h.lo, qe.setCell (p := ⟨b, 1, none⟩) h.lo _⟩
  rcases hV g e with h1 | h1
  · exact h.nfm g h1 e'
  · have := (h.om.lt g e').2; have := hx.size; omega
/-- One more number. -/
theorem DocR.pushM (h : DocR w0 c t b n p q ca cc wo lv fv mv w3) (hx : Ext w3 W) (hg : W.grownBy w4 mv.ownBlock) (hown : w4.ownsRow (b + 1) 3 1 V (q + 1) (ncs .i64 (manys c t (q + 1)))) (hV : ∀ g, V.ownBlock = some g → mv.ownBlock = some g ∨ W.heap.size ≤ g) :
    DocR w0 c t b n p (q + 1) ca cc wo lv fv V (w4.setCell ⟨b, 2, none⟩ V) := by
  obtain ⟨q0, q1, q2, q3, q4, qf, qe⟩ := h.grown h.om hx hg
  have nm : fv.ownBlock = none ∨ fv.ownBlock ≠ mv.ownBlock := by
    cases e : fv.ownBlock with
    | none => exact .inl rfl
    | some g => exact .inr fun e' => h.nfm g e e'.symm
  have kl := (own_ext h.ol hx).kept hg (own_ne h.ol h.om (by decide))
  have kf := (own_ext h.of hx).kept hg nm
  refine ⟨set_oth (by decide) q0, set_oth (by decide) q1, set_same q2, set_oth (by decide) q3, set_oth (by decide) q4, own_setCell kl (p := ⟨b, 2, none⟩) (Nat.lt_succ_self b) _, own_setCell kf (p := ⟨b, 2, none⟩) (Nat.lt_succ_self b) _, own_setCell hown (p := ⟨b, 2, none⟩) (Nat.lt_succ_self b) _, fun g e e' => ?_,
    fun o => by simpa using qf o, h.lo, qe.setCell (p := ⟨b, 2, none⟩) h.lo _⟩
  rcases hV g e' with h1 | h1
  · exact h.nfm g e h1
  · have := (h.of.lt g e).2; have := hx.size; omega
theorem DocR.start (h0 : wr.cell? ⟨b, 0, none⟩ = some (.slice none 0 0)) (h1 : wr.cell? ⟨b, 1, none⟩ = some (.slice none 0 0)) (h2 : wr.cell? ⟨b, 2, none⟩ = some (.slice none 0 0)) (h3 : wr.cell? ⟨b, 3, none⟩ = some (.int .i64 wo)) (h4 : wr.cell? ⟨b, 4, none⟩ = some (.slice ca c.cl.length cc)) (hf : ∀ o, wr.frozen? ⟨b, o, none⟩ = false) (lo : w0.heap.size ≤ b) (hx : Ext w0 wr) :
    DocR w0 c t b 0 0 0 ca cc wo (.slice none 0 0) (.slice none 0 0) (.slice none 0 0) wr :=
  ⟨h0, h1, h2, h3, h4, World.ownsRow_nil _ _ _ _, World.ownsRow_nil _ _ _ _, World.ownsRow_nil _ _ _ _, fun _ e => (by cases e), hf, lo, hx⟩
theorem KOk.nG_pos (h : KOk c) (ht : t < c.ts.length) : 1 ≤ nG c t := by
  have h1 := h.nG_eq ht
  have h2 := (h.sG_le ht (k := c.cl.length) (Nat.le_refl _)).1
  have h3 := h.cl.pos
  have := sG_mono h ht (a := 0) (b := c.cl.length) (by omega) (Nat.le_refl _)
  have : sG c t 0 = 0 := rfl
  omega
theorem KOk.nS_pos (h : KOk c) (ht : t < c.ts.length) : 1 ≤ nS c t := by
  have h1 := h.nS_eq ht
  have h3 := h.cl.pos
  have := sS_mono h ht (a := 0) (b := c.cl.length) (by omega) (Nat.le_refl _)
  have : sS c t 0 = 0 := rfl
  omega
theorem DocR.plan (h : DocR w0 c t b (nS c t) (nG c t) (nG c t) ca cc wo lv fv mv wr) (ho : KOk c) (ht : t < c.ts.length) (hk : At .i64 wr ca c.cl) :
    ∃ lb lc fb fc mb mc, lv = .slice (some ⟨lb, 0, none⟩) (nS c t) lc ∧ fv = .slice (some ⟨fb, 0, none⟩) (nG c t) fc ∧ mv = .slice (some ⟨mb, 0, none⟩) (nG c t) mc ∧ DPlan wr lb fb mb ca c t ∧ b < lb ∧ b < fb ∧ b < mb := by
  obtain ⟨lb, lc, rfl, hl, _⟩ := h.ol.form (by have := ho.nS_pos ht; omega)
  obtain ⟨fb, fc, e1, f1, _, _, _, _, f2, _⟩ := own_ints h.of (by have := ho.nG_pos ht; omega)
  obtain ⟨mb, mc, e2, m1, _, _, _, _, m2, _⟩ := own_ints h.om (by have := ho.nG_pos ht; omega)
  subst e1 e2
  refine ⟨lb, lc, fb, fc, mb, mc, rfl, rfl, rfl, ⟨ho, ht, fun s hs j u hu => ?_, f2, m2, hk⟩, hl, f1, m1⟩
  have hj : j < 4 := by have := (List.getElem?_eq_some_iff.1 hu).1; simpa [slc] using this
  rw [h.ol.cellAt _ (by omega), slcs_at c t _ s j hs hj]; exact hu

end Go.Proofs.YtnbngcagnchkdaaDoor

/-! Objects in slots of a memory, in plain Lean: heads, fields, what Make, Wipe, SetRef, SetWord leave. No program is named here. -/
namespace Go.Proofs.YtnbngcagnchkdaaDoor
open Go.RowKit

/-- Words that are words. -/
def WOk (ws : List Int) : Prop := ∀ i, 0 ≤ nth ws i ∧ nth ws i < 18446744073709551616
theorem WOk.set {ws : List Int} (h : WOk ws) (i : Nat) {x : Int} (hx : 0 ≤ x ∧ x < 18446744073709551616) : WOk (ws.set i x) := by
  intro j
  by_cases hi : i < ws.length
  · rw [nth_setL hi]; split
    · exact hx
    · exact h j
  · rw [List.set_eq_of_length_le (by omega)]; exact h j
theorem WOk.zero {ws : List Int} (h : WOk ws) {a n : Nat} (hl : a + n ≤ ws.length) : WOk (zeroL ws a n) := by
  intro j
  rw [nth_zeroL hl]; split
  · omega
  · exact h j
theorem WOk.rep (n : Nat) : WOk (List.replicate n 0) := by
  intro j
  by_cases h : j < n
  · simp [nth, List.getD, h]
  · simp [nth, List.getD, h]

variable {c : Conf} {t : Nat} {ws ws' : List Int} {s : Int}
/-- A slot; its size, its address, its word i among all words. -/
def bIn (c : Conf) (t : Nat) (s : Int) : Prop := 0 ≤ s ∧ s < (nS c t : Int)
instance (c : Conf) (t : Nat) (s : Int) : Decidable (bIn c t s) := by unfold bIn; infer_instance
def bSz (c : Conf) (t : Nat) (s : Int) : Int := nth c.cl (kOf c t s)
def bAd (c : Conf) (t : Nat) (s : Int) : Int := addrOf c t s (kOf c t s)
def bAt (c : Conf) (t : Nat) (s : Int) (i : Nat) : Nat := baseN c t + ((bAd c t s).toNat + i)
def bwd (c : Conf) (t : Nat) (ws : List Int) (s : Int) (i : Nat) : Int := nth ws (bAt c t s i)
/-- May a head lie in a slot? -/
def bLies (c : Conf) (t : Nat) (s : Int) (h : Hd) : Prop := hdok h ∧ h.c = (kOf c t s : Int) ∧ h.r + h.w + 1 ≤ bSz c t s
instance (c : Conf) (t : Nat) (s : Int) (h : Hd) : Decidable (bLies c t s h) := by unfold bLies; infer_instance
/-- The head of a slot. -/
def bHead (c : Conf) (t : Nat) (ws : List Int) (s : Int) : Hd × Int :=
  if bIn c t s then (if hdis (bwd c t ws s 0) ∧ bLies c t s (hdraw (bwd c t ws s 0)) then (hdraw (bwd c t ws s 0), 0) else (hdnil, 5)) else (hdnil, 2)
def bWipe (c : Conf) (t : Nat) (ws : List Int) (s : Int) : List Int × Int :=
  if bIn c t s then (zeroL ws (bAt c t s 0) (bSz c t s).toNat, 0) else (ws, 2)
def bMake (c : Conf) (t : Nat) (ws : List Int) (s : Int) (h : Hd) : List Int × Int :=
  if bIn c t s ∧ bLies c t s h then (if (bHead c t ws s).2 = 0 then (ws, 8) else ((zeroL ws (bAt c t s 0) (bSz c t s).toNat).set (bAt c t s 0) (hdword h), 0)) else (ws, 2)
/-- A field must be of a kind. -/
def bField (c : Conf) (t : Nat) (ws : List Int) (s i : Int) (ref : Bool) : Int :=
  if (bHead c t ws s).2 = 0 then (if hdfield (bHead c t ws s).1 i = (ref, 0) then 0 else 110) else (bHead c t ws s).2
def bLoad (c : Conf) (t : Nat) (ws : List Int) (s i : Int) (ref : Bool) : Int × Int :=
  if bField c t ws s i ref = 0 then (bwd c t ws s (1 + i.toNat), 0) else (0, bField c t ws s i ref)
def bStore (c : Conf) (t : Nat) (ws : List Int) (s i : Int) (ref : Bool) (x : Int) : List Int × Int :=
  if bField c t ws s i ref = 0 then (ws.set (bAt c t s (1 + i.toNat)) x, 0) else (ws, bField c t ws s i ref)
def bRef (c : Conf) (t : Nat) (ws : List Int) (s i : Int) : Int × Int :=
  if (bLoad c t ws s i true).2 = 0 then (if (nS c t : Int) < (bLoad c t ws s i true).1 then (0, 5) else ((bLoad c t ws s i true).1 - 1, 0)) else (0, (bLoad c t ws s i true).2)
def bSetRef (c : Conf) (t : Nat) (ws : List Int) (s i to : Int) : List Int × Int :=
  if bIn c t s ∧ -1 ≤ to ∧ to < (nS c t : Int) then bStore c t ws s i true (to + 1) else (ws, 2)
def bWord (c : Conf) (t : Nat) (ws : List Int) (s i : Int) : Int × Int := bLoad c t ws s i false
def bSetWord (c : Conf) (t : Nat) (ws : List Int) (s i x : Int) : List Int × Int := bStore c t ws s i false x

/-- What is so of a slot. -/
structure SlotB (c : Conf) (t : Nat) (s : Int) (k : Nat) : Prop where
  at_ : AtClass c t s k
  kof : kOf c t s = k
  a0 : 0 ≤ bAd c t s
  s2 : 2 ≤ bSz c t s
  s64 : bSz c t s ≤ 64
  fit : bAd c t s + bSz c t s ≤ (wordsN c t : Int)
theorem wordsN_page (ho : KOk c) (ht : t < c.ts.length) : (wordsN c t : Int) = sG c t c.cl.length * c.page := by
  rw [ho.wordsN_eq ht]; exact sG_words t _
theorem slotB (ho : KOk c) (ht : t < c.ts.length) (h : bIn c t s) : SlotB c t s (kOf c t s) := by
  have hn := ho.nS_eq ht
  obtain ⟨k, hk⟩ := atClass_find (c := c) (t := t) (s := s) h.1 (by have := h.2; omega)
  have e := hk.kOf ho ht
  have bd := ho.bounds ht hk.lt
  have w := slots_within ho ht hk
  have wp := wordsN_page ho ht
  rw [← e] at hk
  refine ⟨hk, rfl, ?_, ?_, ?_, ?_⟩
  · unfold bAd; rw [e]; exact w.1
  · unfold bSz; rw [e]; exact bd.c2
  · unfold bSz; rw [e]; exact bd.c64
  · unfold bAd bSz; rw [e, wp]; exact w.2
theorem bIn_out (ho : KOk c) (ht : t < c.ts.length) (h : ¬ bIn c t s) : s < 0 ∨ sS c t c.cl.length ≤ s := by
  have hn := ho.nS_eq ht
  unfold bIn at h
  omega
theorem SlotB.at_lt {k : Nat} (h : SlotB c t s k) (ho : KOk c) (ht : t < c.ts.length) (hl : ws.length = totalN c) {i : Nat} (hi : (i : Int) < bSz c t s) : bAt c t s i < ws.length := by
  have := ho.region_in ht
  have := h.fit; have := h.a0
  unfold bAt; omega
theorem SlotB.load {k : Nat} (h : SlotB c t s k) (ht : t < c.ts.length) {i : Nat} (hi : (i : Int) < bSz c t s) : loadR c ws t (bAd c t s + i) = (bwd c t ws s i, 0) := by
  have f := h.fit; have a := h.a0
  obtain ⟨A, hA⟩ : ∃ A : Nat, bAd c t s = A := ⟨(bAd c t s).toNat, by omega⟩
  have e : partErr c t (bAd c t s + i) 1 = 0 := by
    rw [hA]; exact partErr_mk (c := c) (i := t) (j := A + i) (m := 1) ht (by omega)
  unfold loadR
  rw [if_pos e]
  unfold bwd bAt
  rw [hA]
  rw [show (t : Int).toNat = t from rfl, show ((A : Int) + i).toNat = A + i by omega, show ((A : Int)).toNat = A by omega]
theorem SlotB.store {k : Nat} (h : SlotB c t s k) (ht : t < c.ts.length) {i : Nat} (hi : (i : Int) < bSz c t s) (x : Int) : storeR c ws t (bAd c t s + i) x = (ws.set (bAt c t s i) x, 0) := by
  have f := h.fit; have a := h.a0
  obtain ⟨A, hA⟩ : ∃ A : Nat, bAd c t s = A := ⟨(bAd c t s).toNat, by omega⟩
  have e : partErr c t (bAd c t s + i) 1 = 0 := by
    rw [hA]; exact partErr_mk (c := c) (i := t) (j := A + i) (m := 1) ht (by omega)
  unfold storeR
  rw [if_pos e]
  unfold bAt
  rw [hA]
  rw [show (t : Int).toNat = t from rfl, show ((A : Int) + i).toNat = A + i by omega, show ((A : Int)).toNat = A by omega]
theorem SlotB.zero {k : Nat} (h : SlotB c t s k) (ht : t < c.ts.length) : zeroR c ws t (bAd c t s) (bSz c t s) = (zeroL ws (bAt c t s 0) (bSz c t s).toNat, 0) := by
  have f := h.fit; have a := h.a0; have s2 := h.s2
  obtain ⟨A, hA⟩ : ∃ A : Nat, bAd c t s = A := ⟨(bAd c t s).toNat, by omega⟩
  obtain ⟨S, hS⟩ : ∃ S : Nat, bSz c t s = S := ⟨(bSz c t s).toNat, by omega⟩
  have e : partErr c t (bAd c t s) (bSz c t s) = 0 := by
    rw [hA, hS]; exact partErr_mk (c := c) (i := t) (j := A) (m := S) ht (by omega)
  unfold zeroR
  rw [if_pos e]
  unfold bAt
  rw [show (t : Int).toNat = t from rfl, Nat.add_zero]
theorem SlotB.is64 {k : Nat} (h : SlotB c t s k) (ho : KOk c) (ht : t < c.ts.length) : -9223372036854775808 ≤ bAd c t s ∧ bAd c t s + 100 ≤ 9223372036854775807 := by
  have f := h.fit; have a := h.a0; have := h.s2
  have r := ho.region_in ht
  have := ho.total_le
  omega

/-! ### Heads -/
theorem bHead_out (h : ¬ bIn c t s) : bHead c t ws s = (hdnil, 2) := by unfold bHead; rw [if_neg h]
/-- A slot's head is one, or there is none. -/
theorem bHead_ok (h : (bHead c t ws s).2 = 0) : bIn c t s ∧ hdis (bwd c t ws s 0) ∧ bLies c t s (bHead c t ws s).1 ∧ (bHead c t ws s).1 = hdraw (bwd c t ws s 0) := by
  unfold bHead at h ⊢
  split at h
  · rename_i h1
    split at h
    · rename_i h2
      rw [if_pos h1, if_pos h2]
      exact ⟨h1, h2.1, h2.2, rfl⟩
    · exact absurd h (by simp)
  · exact absurd h (by simp)
theorem bHead_err : (bHead c t ws s).2 = 0 ∨ bHead c t ws s = (hdnil, 5) ∨ bHead c t ws s = (hdnil, 2) := by
  unfold bHead
  split
  · split
    · exact .inl rfl
    · exact .inr (.inl rfl)
  · exact .inr (.inr rfl)
/-- A field that is one: in the object. -/
theorem hdfield_in {h : Hd} {i : Int} {r : Bool} (hf : hdfield h i = (r, 0)) : hdok h ∧ 0 ≤ i ∧ i < h.r + h.w ∧ r = decide (i < h.r) := by
  unfold hdfield at hf
  split at hf
  · rename_i h1
    split at hf
    · simp at hf
    · rename_i h2
      simp at hf
      exact ⟨h1, by omega, by omega, by rw [← hf]⟩
  · simp at hf
theorem bField_ok {i : Int} {r : Bool} (h : bField c t ws s i r = 0) : (bHead c t ws s).2 = 0 ∧ hdfield (bHead c t ws s).1 i = (r, 0) := by
  unfold bField at h
  split at h
  · rename_i h1
    split at h
    · rename_i h2; exact ⟨h1, h2⟩
    · exact absurd h (by decide)
  · rename_i h1; exact absurd h h1
theorem bField_in {i : Int} {r : Bool} (h : bField c t ws s i r = 0) : bIn c t s ∧ ∃ j : Nat, i = j ∧ (1 : Int) + j < bSz c t s := by
  obtain ⟨h1, h2⟩ := bField_ok h
  obtain ⟨i1, i2, i3, i4⟩ := bHead_ok h1
  obtain ⟨f1, f2, f3, f4⟩ := hdfield_in h2
  have := i3.2.2
  exact ⟨i1, i.toNat, by omega, by omega⟩
theorem bWipe_len : (ws.length = totalN c) → KOk c → t < c.ts.length → (bWipe c t ws s).1.length = totalN c := by
  intro hl ho ht
  unfold bWipe
  split
  · rename_i h
    have sb := slotB ho ht h
    have f := sb.fit; have a := sb.a0; have s2 := sb.s2; have r := ho.region_in ht
    rw [zeroL_len (by unfold bAt; omega)]; exact hl
  · exact hl
theorem bStore_len {i x : Int} {r : Bool} : (bStore c t ws s i r x).1.length = ws.length := by
  unfold bStore; split
  · exact List.length_set
  · rfl
theorem bStore_ok {i x : Int} {r : Bool} (h : WOk ws) (hx : 0 ≤ x ∧ x < 18446744073709551616) : WOk (bStore c t ws s i r x).1 := by
  unfold bStore; split
  · exact h.set _ hx
  · exact h
theorem bWipe_ok (h : WOk ws) (hl : ws.length = totalN c) (ho : KOk c) (ht : t < c.ts.length) : WOk (bWipe c t ws s).1 := by
  unfold bWipe
  split
  · rename_i h1
    have sb := slotB ho ht h1
    have f := sb.fit; have a := sb.a0; have s2 := sb.s2; have r := ho.region_in ht
    exact h.zero (by unfold bAt; omega)
  · exact h

end Go.Proofs.YtnbngcagnchkdaaDoor

/-! Boxes of some cells. -/
namespace Go.Proofs.YtnbngcagnchkdaaDoor
open Go.RowKit

/-- A box of some cells. -/
structure BoxG (w : World) (z : Nat) (V : List Value) : Prop where
  c : ∀ i x, V[i]? = some x → w.cell? ⟨z, i, none⟩ = some x
  f : ∀ i, w.frozen? ⟨z, i, none⟩ = false
  lt : z < w.heap.size
section
variable {w w' : World} {z : Nat} {V : List Value}
theorem BoxG.new (w : World) (V : List Value) (u : TypeId) {z : Nat} (hz : w.heap.size = z) : BoxG (w.alloc (.cells V.toArray u)) z V := by
  subst hz
  refine ⟨fun i x hx => ?_, fun i => World.frozen?_alloc_at _ _ _ _ rfl, by simp⟩
  rw [cell_newN]; simpa using hx
theorem BoxG.chg {Q : Nat → Prop} (h : BoxG w z V) (hx : Chg Q w w') (hq : ¬ Q z) : BoxG w' z V :=
  ⟨fun i x e => hx.cell hq (h.c i x e), fun i => by rw [hx.frozen (p := ⟨z, i, none⟩) h.lt hq]; exact h.f i, Nat.lt_of_lt_of_le h.lt hx.size⟩
theorem BoxG.ext (h : BoxG w z V) (hx : Ext w w') : BoxG w' z V := h.chg (Q := fun _ => False) (Chg.of_ext hx) (fun a => a)
theorem BoxG.set (h : BoxG w z V) {i : Nat} (hi : i < V.length) (v : Value) : BoxG (w.setCell ⟨z, i, none⟩ v) z (V.set i v) := by
  refine ⟨fun j x hx => ?_, fun j => by rw [World.frozen?_setCell]; exact h.f j, by simpa using h.lt⟩
  by_cases e : j = i
  · subst e
    rw [List.getElem?_set_self hi] at hx
    cases hx
    exact World.cell?_setCell_same _ _ _ (h.c j _ (List.getElem?_eq_getElem hi))
  · rw [List.getElem?_set_ne (Ne.symm e)] at hx
    rw [World.cell?_setCell_other w ⟨z, i, none⟩ ⟨z, j, none⟩ v (by intro q; cases q; exact e rfl)]
    exact h.c j x hx
theorem BoxG.far (h : BoxG w z V) {p : Addr} (hp : p.block ≠ z) (v : Value) : BoxG (w.setCell p v) z V :=
  ⟨fun i x e => by rw [cell_far _ _ _ _ hp]; exact h.c i x e, fun i => by rw [World.frozen?_setCell]; exact h.f i, by simpa using h.lt⟩
end

end Go.Proofs.YtnbngcagnchkdaaDoor

/-! A plan where some blocks change. -/
namespace Go.Proofs.YtnbngcagnchkdaaDoor
open Go.RowKit

theorem PlanAt.chg {P : Nat → Prop} {w w' : World} {b gp : Nat} {c : Conf} {t : Nat} (h : PlanAt w b gp c t) (hx : Chg P w w') (hb : ¬ P b) (hg : ¬ P gp) : PlanAt w' b gp c t := by
  obtain ⟨cap, h0⟩ := h.parts
  exact ⟨h.ok, h.ti, ⟨cap, hx.cell hb h0⟩, hx.cell hb h.slots, hx.cell hb h.pages, hx.cell hb h.page, fun i hi j u hu => hx.cell hg (h.row i hi j u hu)⟩
theorem PlanAt.lt {w : World} {b gp : Nat} {c : Conf} {t : Nat} (h : PlanAt w b gp c t) : b < w.heap.size ∧ gp < w.heap.size :=
  ⟨cell_lt h.page, cell_lt (h.row 0 h.ok.cl.pos 0 _ rfl)⟩

end Go.Proofs.YtnbngcagnchkdaaDoor

/-! slot.New: a plan's shape in the memory. -/
namespace Go.Proofs.YtnbngcagnchkdaaDoor
open Go.RowKit

theorem stOth {W : World} {b i j : Nat} {u v : Value} (h : i ≠ j) (hc : W.cell? ⟨b, j, none⟩ = some v) : (W.setCell ⟨b, i, none⟩ u).cell? ⟨b, j, none⟩ = some v := by
  have := World.cell?_setCell_other W ⟨b, i, none⟩ ⟨b, j, none⟩ u (by intro e; cases e; exact h rfl)
  rw [this]; exact hc
/-- What New's loop keeps. -/
structure PlanR (w0 : World) (c : Conf) (t b k : Nat) (sv : Value) (wr : World) : Prop where
  c0 : wr.cell? ⟨b, 0, none⟩ = some sv
  own : wr.ownsRow (b + 1) 87 5 sv k (pcs c t k)
  c1 : wr.cell? ⟨b, 1, none⟩ = some (.int .i64 (sS c t k))
  c2 : wr.cell? ⟨b, 2, none⟩ = some (.int .i64 (sG c t k))
  c3 : wr.cell? ⟨b, 3, none⟩ = some (.int .i64 c.page)
  fz : ∀ o, wr.frozen? ⟨b, o, none⟩ = false
  lo : w0.heap.size ≤ b
  ext : Ext w0 wr
theorem PlanR.go {w0 wr w' : World} {c : Conf} {t b k : Nat} {sv : Value} (h : PlanR w0 c t b k sv wr) (hx : Ext wr w') : PlanR w0 c t b k sv w' :=
  ⟨hx.cell h.c0, own_ext h.own hx, hx.cell h.c1, hx.cell h.c2, hx.cell h.c3, fun o => by rw [hx.frozen (p := ⟨b, o, none⟩) (show b < wr.heap.size from cell_lt h.c0)]; exact h.fz o, h.lo, h.ext.trans hx⟩

theorem PlanR.ne {w0 wr : World} {c : Conf} {t b k : Nat} {sv : Value} (h : PlanR w0 c t b k sv wr) : some b ≠ sv.ownBlock := fun e => by
  have := (h.own.lt b e.symm).1; omega
theorem PlanR.ne' {w0 wr : World} {c : Conf} {t b k x : Nat} {sv : Value} (h : PlanR w0 c t b k sv wr) (hx : x < w0.heap.size) : some x ≠ sv.ownBlock := fun e => by
  have := (h.own.lt x e.symm).1; have := h.lo; omega
/-- .. behind the append. -/
theorem PlanR.grown {w0 w3 W w4 : World} {c : Conf} {t b k : Nat} {sv : Value} (h : PlanR w0 c t b k sv w3) (hx : Ext w3 W) (hg : W.grownBy w4 sv.ownBlock) :
    w4.cell? ⟨b, 0, none⟩ = some sv ∧ w4.cell? ⟨b, 1, none⟩ = some (.int .i64 (sS c t k)) ∧ w4.cell? ⟨b, 2, none⟩ = some (.int .i64 (sG c t k)) ∧ w4.cell? ⟨b, 3, none⟩ = some (.int .i64 c.page) ∧ (∀ o, w4.frozen? ⟨b, o, none⟩ = false) ∧ Ext w0 w4 := by
  have hl : b < w3.heap.size := cell_lt h.c0
  refine ⟨grow_cell hg hx h.c0 h.ne, grow_cell hg hx h.c1 h.ne, grow_cell hg hx h.c2 h.ne, grow_cell hg hx h.c3 h.ne, fun o => ?_, (h.ext.trans hx).grown hg fun k' e => ?_⟩
  · rw [hg.frozen_far _ (Nat.lt_of_lt_of_le hl hx.size) h.ne, hx.frozen (p := ⟨b, o, none⟩) hl]; exact h.fz o
  · have := (h.own.lt k' e).1; have := h.lo; omega
theorem stSame {W : World} {b j : Nat} {u v : Value} (hc : W.cell? ⟨b, j, none⟩ = some v) : (W.setCell ⟨b, j, none⟩ u).cell? ⟨b, j, none⟩ = some u := World.cell?_setCell_same W _ _ hc
theorem PlanR.step {w0 w4 : World} {c : Conf} {t b k : Nat} {sv V : Value} {S G S' G' : Int} (q0 : w4.cell? ⟨b, 0, none⟩ = some sv) (q1 : w4.cell? ⟨b, 1, none⟩ = some (.int .i64 S)) (q2 : w4.cell? ⟨b, 2, none⟩ = some (.int .i64 G)) (q3 : w4.cell? ⟨b, 3, none⟩ = some (.int .i64 c.page))
    (qf : ∀ o, w4.frozen? ⟨b, o, none⟩ = false) (h4 : Ext w0 w4) (lo : w0.heap.size ≤ b) (hown : w4.ownsRow (b + 1) 87 5 V (k + 1) (pcs c t (k + 1))) (hS : sS c t (k + 1) = S') (hG : sG c t (k + 1) = G') :
    PlanR w0 c t b (k + 1) V (((w4.setCell ⟨b, 0, none⟩ V).setCell ⟨b, 1, none⟩ (.int .i64 S')).setCell ⟨b, 2, none⟩ (.int .i64 G')) := by
  subst hS hG
  exact ⟨stOth (by decide) (stOth (by decide) (stSame q0)), own_setCell (own_setCell (own_setCell hown (p := ⟨b, 0, none⟩) (Nat.lt_succ_self b) _) (p := ⟨b, 1, none⟩) (Nat.lt_succ_self b) _) (p := ⟨b, 2, none⟩) (Nat.lt_succ_self b) _, stOth (by decide) (stSame (stOth (by decide) q1)), stSame (stOth (by decide) (stOth (by decide) q2)), stOth (by decide) (stOth (by decide) (stOth (by decide) q3)), fun o => by simpa using qf o, lo,
    ((h4.setCell (p := ⟨b, 0, none⟩) lo _).setCell (p := ⟨b, 1, none⟩) lo _).setCell (p := ⟨b, 2, none⟩) lo _⟩
theorem PlanR.plan {w0 wr : World} {c : Conf} {t b : Nat} {sv : Value} (h : PlanR w0 c t b c.cl.length sv wr) (ho : KOk c) (ht : t < c.ts.length) : ∃ gp, PlanAt wr b gp c t := by
  obtain ⟨g, cap, rfl, _, _⟩ := h.own.form (by have := ho.cl.pos; omega)
  refine ⟨g, ho, ht, ⟨cap, h.c0⟩, h.c1, h.c2, h.c3, fun i hi j u hu => ?_⟩
  have hj : j < 5 := by have := (List.getElem?_eq_some_iff.1 hu).1; simpa [pc5] using this
  rw [h.own.cellAt _ (by omega), pcs_at c t _ i j hi hj]; exact hu
theorem info_part : (Tryd.prog.info? 87).map (fun i => (i.zero, i.size, i.bytes)) = some (some (.agg #[.int .i64 0, .int .i64 0, .int .i64 0, .int .i64 0, .int .i64 0]), 5, 40) := by kernel_rfl

set_option maxHeartbeats 2000000 in
theorem slot_New_no {ca ta : Option Addr} {cc tc : Nat} (c : Conf) (t : Int) {w : World} (hn : ¬ there c t 0) (h : CfgAt w ca ta cc tc c) :
    Calls Tryd.prog 6 #[.agg #[.slice ca c.cl.length cc, .int .i64 c.page, .slice ta c.ts.length tc, .int .i64 c.wk, .int .i64 c.gr, .int .i64 c.gens], .int .i64 t] w fun e w' => e = .returned (.tuple #[.pointer none, .int .i64 2]) ∧ Ext w w' := by
  have h1 := Ext.refl (w.alloc (.cells #[.slice ca c.cl.length cc, .int .i64 c.page, .slice ta c.ts.length tc, .int .i64 c.wk, .int .i64 c.gr, .int .i64 c.gens] 25))
  have hx := (Ext.refl w).alloc (.cells #[.slice ca c.cl.length cc, .int .i64 c.page, .slice ta c.ts.length tc, .int .i64 c.wk, .int .i64 c.gr, .int .i64 c.gens] 25)
  have R := Lib.hid (kregion_no hn)
  have H := Lib.hid h
  clear h hn
  go_enter Tryd.func6, Tryd.ntmps6
  go_wp2_with fail
  refine (conf_Region c t 0 2 R.out (H.out.ext (hx.trans h1))).mono ?_
  rintro e w1 ⟨rfl, h2⟩
  replace h1 := h1.trans h2
  clear h2
  go_wp2_with fail
  go_ret2
  exact ⟨rfl, hx.trans h1⟩

/-- What New hands back. -/
def PlanNew (c : Conf) (t : Nat) (w : World) (e : Ending) (w' : World) : Prop := ∃ b gp, e = .returned (.tuple #[.pointer (some ⟨b, 0, none⟩), .int .i64 0]) ∧ PlanAt w' b gp c t ∧ Ext w w'

set_option maxRecDepth 100000 in
set_option maxHeartbeats 8000000 in
theorem slot_New {ca ta : Option Addr} {cc tc : Nat} (c : Conf) (i : Nat) {w : World} (hk0 : kcheck c = 0) (hi : i < c.ts.length) (h : CfgAt w ca ta cc tc c) :
    Calls Tryd.prog 6 #[.agg #[.slice ca c.cl.length cc, .int .i64 c.page, .slice ta c.ts.length tc, .int .i64 c.wk, .int .i64 c.gr, .int .i64 c.gens], .int .i64 i] w (PlanNew c i w) := by
  obtain ⟨i0, hi0, hz0, hz1, hz2⟩ := info_parts info_part
  have h1 := Ext.refl (w.alloc (.cells #[.slice ca c.cl.length cc, .int .i64 c.page, .slice ta c.ts.length tc, .int .i64 c.wk, .int .i64 c.gr, .int .i64 c.gens] 25))
  have hx := (Ext.refl w).alloc (.cells #[.slice ca c.cl.length cc, .int .i64 c.page, .slice ta c.ts.length tc, .int .i64 c.wk, .int .i64 c.gr, .int .i64 c.gens] 25)
  have ho := kcheck_ok hk0
  have K0 := Lib.hid hk0
  have HO := Lib.hid ho
  have c8 := ho.cl.most
  have c1 := ho.cl.pos
  have R := Lib.hid (kregion_yes (there_mk (i := i) (j := 0) hk0 hi c1))
  obtain ⟨pw, hpw⟩ : ∃ p, wordsOf c i = p := ⟨_, rfl⟩
  rw [hpw] at R
  have H := Lib.hid h
  obtain ⟨cb, co, rfl, hc⟩ := h.cl.pos c1
  have HC := Lib.hid hc
  clear h hk0 ho hpw hc
  go_enter Tryd.func6, Tryd.ntmps6
  go_wp2_with fail
  refine (conf_Region c i pw 0 R.out (H.out.ext (hx.trans h1))).mono ?_
  rintro e w1 ⟨rfl, h2⟩
  replace h1 := h1.trans h2
  clear h2
  obtain ⟨b0, b1, b2, b3, b4, b5⟩ := box6 h1
  have hlt1 : w.heap.size < w1.heap.size := cell_lt b0
  go_wp2_with fail
  have PR0 : Hid (PlanR (w.alloc (.cells #[.slice (some ⟨cb, co, none⟩) c.cl.length cc, .int .i64 c.page, .slice ta c.ts.length tc, .int .i64 c.wk, .int .i64 c.gr, .int .i64 c.gens] 25)) c i w1.heap.size 0 (.slice none 0 0) (w1.alloc (.cells #[.slice none 0 0, .int .i64 0, .int .i64 0, .int .i64 c.page] 84))) :=
    Lib.hid ⟨cell_newN _ _ _ 0, World.ownsRow_nil _ _ _ _, cell_newN _ _ _ 1, cell_newN _ _ _ 2, cell_newN _ _ _ 3, fun o => World.frozen?_alloc_at _ _ _ _ rfl, h1.size, h1.alloc _⟩
  clear b0 b1 b2 b3 b4 b5 hlt1 h1
  generalize w1.heap.size = b at *
  go_loopw [31] (fun kv wr => ∃ (k : Nat) (sv : Value), k ≤ c.cl.length ∧ kv = .int .i64 k ∧ Hid (PlanR (w.alloc (.cells #[.slice (some ⟨cb, co, none⟩) c.cl.length cc, .int .i64 c.page, .slice ta c.ts.length tc, .int .i64 c.wk, .int .i64 c.gr, .int .i64 c.gens] 25)) c i b k sv wr)) (fun kv _ => c.cl.length - (intOf kv).toNat)
  case atStart => exact ⟨0, _, Nat.zero_le _, rfl, PR0⟩
  case round =>
    clear PR0
    obtain ⟨k, sv, hk, rfl, PR⟩ := hrel
    have h1 := PR.out.ext
    by_cases hlt : k < c.cl.length
    · have z0 := (hx.trans h1).cell (HC.out k hlt)
      have KS := Lib.hid (kslots_yes (there_mk K0.out hi hlt))
      have KP := Lib.hid (kpages_yes (there_mk K0.out hi hlt))
      have bd := HO.out.bounds hi hlt
      have u1 := bd.c2; have u2 := bd.cpage; have u3 := bd.p64; have u4 := bd.c64; have u5 := bd.s1; have u6 := bd.s2048; have u7 := bd.pg1; have u8 := bd.pg2048; have u9 := bd.per1; have u10 := bd.per32
      have sl := HO.out.sS_le hi hk
      have gl := HO.out.sG_le hi hk
      have HPE := Lib.hid (show c.page / nth c.cl k = perOf c k from rfl)
      have SS := Lib.hid (show sS c i (k + 1) = sS c i k + slotsOf c i k from rfl)
      have SG := Lib.hid (show sG c i (k + 1) = sG c i k + pagesOf c i k from rfl)
      have PS := Lib.hid (show pcs c i (k + 1) = pcs c i k ++ [.int .i64 (nth c.cl k), .int .i64 (sS c i k), .int .i64 (slotsOf c i k), .int .i64 (sG c i k), .int .i64 (perOf c k)] from rfl)
      obtain ⟨b0, b1, b2, b3, b4, b5⟩ := box6 h1
      clear bd
      obtain ⟨s0, s1⟩ := sl
      obtain ⟨g0, g1⟩ := gl
      generalize nth c.cl k = x at *
      generalize slotsOf c i k = s at *
      generalize pagesOf c i k = pg at *
      generalize perOf c k = pe at *
      go_wp2_with fail
      clear b0 b1 b2 b3 b4 b5
      refine (conf_Slots c i k s 0 KS.out (H.out.ext (hx.trans h1))).mono ?_
      rintro e w2 ⟨rfl, h2⟩
      have PR2 := Lib.hid (PR.out.go h2)
      clear h2 h1 z0
      have h1 := PR2.out.ext
      obtain ⟨b0, b1, b2, b3, b4, b5⟩ := box6 h1
      go_wp2_with fail
      clear b0 b1 b2 b3 b4 b5
      refine (conf_Pages c i k pg 0 KP.out (H.out.ext (hx.trans h1))).mono ?_
      rintro e w3 ⟨rfl, h2⟩
      have PR3 := Lib.hid (PR2.out.go h2)
      clear h2 h1
      have h1 := PR3.out.ext
      obtain ⟨b0, b1, b2, b3, b4, b5⟩ := box6 h1
      have p0 := PR3.out.c0; have p1 := PR3.out.c1; have p2 := PR3.out.c2; have p3 := PR3.out.c3
      go_wp2_with fail
      have n0 := PR3.out.ne
      have n1 := PR3.out.ne' (x := w.heap.size) (by simp)
      have hb3 : b < w3.heap.size := cell_lt p0
      have x0 : ¬ x = 0 := by omega
      have hwp : IntKind.i64.wrap pe = pe := IntWalk.i64_in _ (by omega)
      have NB1 := Lib.hid (show ∀ j u, [Value.int .i64 x, .int .i64 (sS c i k), .int .i64 s, .int .i64 (sG c i k), .int .i64 pe][j]? = some u → (w3.drew.alloc (.cells #[.int .i64 x, .int .i64 (sS c i k), .int .i64 s, .int .i64 (sG c i k), .int .i64 pe] 87)).cell? ((⟨w3.heap.size, 0, none⟩ : Addr).add j) = some u from fun j u hu => World.news_of_block (heap_alloc_new w3.drew _) j u hu)
      have NB2 := Lib.hid (show ∀ j u, [Value.int .i64 x, .int .i64 (sS c i k), .int .i64 s, .int .i64 (sG c i k), .int .i64 pe][j]? = some u → ((w3.alloc (.cells #[.int .i64 x, .int .i64 (sS c i k), .int .i64 s, .int .i64 (sG c i k), .int .i64 pe] 87)).drew).cell? ((⟨w3.heap.size, 0, none⟩ : Addr).add j) = some u from fun j u hu => (Ext.refl _).drew.cell (World.news_of_block (heap_alloc_new w3 _) j u hu))
      have hbw : b ≠ w.heap.size := by have := PR3.out.lo; simp at this; omega
      have xq : (c.page).tdiv x = pe := by rw [← HPE.out]; exact Int.tdiv_eq_ediv_of_nonneg (by omega)
      refine wp_region_noPanic ?_
      refine wp_region_held_drew (S := (fun w' => w'.cell? ⟨b, 1, none⟩ = some (.int .i64 (sS c i k)) ∧ w'.cell? ⟨b, 2, none⟩ = some (.int .i64 (sG c i k)) ∧ w'.cell? ⟨w.heap.size, 1, none⟩ = some (.int .i64 c.page))) (by kernel_rfl) ?_ (fun hHeld => ?_)
      focus ((try dsimp only); go_keep)
      refine wpAnyH_take (i := 0) (v := ?_) rfl (by kernel_rfl) (by kernel_rfl) (by kernel_rfl) (fun _ _ _ h => h) (Or.inl ⟨by rfl, ?_⟩) (by assumption) ?_
      rotate_left
      focus (intro w hSw; (try dsimp only at hSw); go_simp; try with_reducible rfl)
      try simp only [Act.put, List.setIfInBounds_toArray, List.set_cons_zero, List.set_cons_succ]
      refine wpAnyH_take (i := 1) (v := ?_) rfl (by kernel_rfl) (by kernel_rfl) (by kernel_rfl) (fun _ _ _ h => h) (Or.inl ⟨by rfl, ?_⟩) (by assumption) ?_
      rotate_left
      focus (intro w hSw; (try dsimp only at hSw); go_simp; try with_reducible rfl)
      try simp only [Act.put, List.setIfInBounds_toArray, List.set_cons_zero, List.set_cons_succ]
      refine wpAnyH_take (i := 2) (v := ?_) rfl (by kernel_rfl) (by kernel_rfl) (by kernel_rfl) (fun _ _ _ h => h) (Or.inl ⟨by rfl, ?_⟩) (by assumption) ?_
      rotate_left
      focus (intro w hSw; (try dsimp only at hSw); go_simp; try with_reducible rfl)
      try simp only [Act.put, List.setIfInBounds_toArray, List.set_cons_zero, List.set_cons_succ]
      refine wpAnyH_take (i := 3) (v := ?_) rfl (by kernel_rfl) (by kernel_rfl) (by kernel_rfl) (fun _ _ _ h => h) (Or.inl ⟨by rfl, ?_⟩) (by assumption) ?_
      rotate_left
      focus (intro w hSw; (try dsimp only at hSw); go_simp; try with_reducible rfl)
      try simp only [Act.put, List.setIfInBounds_toArray, List.set_cons_zero, List.set_cons_succ]
      refine wpAnyH_take (i := 5) (v := ?_) rfl (by kernel_rfl) (by kernel_rfl) (by kernel_rfl) (fun _ _ _ h => h) (Or.inl ⟨by rfl, ?_⟩) (by assumption) ?_
      rotate_left
      focus (intro w hSw; (try dsimp only at hSw); go_simp; try with_reducible rfl)
      try simp only [Act.put, List.setIfInBounds_toArray, List.set_cons_zero, List.set_cons_succ]
      refine wpAnyH_take (i := 6) (v := ?_) rfl (by kernel_rfl) (by kernel_rfl) (by kernel_rfl) (fun _ _ _ h => h) (Or.inl ⟨by rfl, ?_⟩) (by assumption) ?_
      rotate_left
      focus (intro w hSw; (try dsimp only at hSw); go_simp; try with_reducible rfl)
      try simp only [Act.put, List.setIfInBounds_toArray, List.set_cons_zero, List.set_cons_succ]
      refine wpAnyH_take (i := 7) (v := ?_) rfl (by kernel_rfl) (by kernel_rfl) (by kernel_rfl) (fun _ _ _ h => h) (Or.inl ⟨by rfl, ?_⟩) (by assumption) ?_
      rotate_left
      focus (intro w hSw; (try dsimp only at hSw); go_simp; try with_reducible rfl)
      try simp only [Act.put, List.setIfInBounds_toArray, List.set_cons_zero, List.set_cons_succ]
      refine wpAnyH_take (i := 8) (v := ?_) rfl (by kernel_rfl) (by kernel_rfl) (by kernel_rfl) (fun _ _ _ h => h) (Or.inl ⟨by rfl, ?_⟩) (by assumption) ?_
      rotate_left
      focus (intro w hSw; (try dsimp only at hSw); go_simp; try with_reducible rfl)
      try simp only [Act.put, List.setIfInBounds_toArray, List.set_cons_zero, List.set_cons_succ]
      refine wpAnyH_take (i := 9) (v := ?_) rfl (by kernel_rfl) (by kernel_rfl) (by kernel_rfl) (fun _ _ _ h => h) (Or.inl ⟨by rfl, ?_⟩) (by assumption) ?_
      rotate_left
      focus (intro w hSw; (try dsimp only at hSw); go_simp; try with_reducible rfl)
      try simp only [Act.put, List.setIfInBounds_toArray, List.set_cons_zero, List.set_cons_succ]
      refine wpAnyH_take (i := 10) (v := ?_) rfl (by kernel_rfl) (by kernel_rfl) (by kernel_rfl) (fun _ _ _ h => h) (Or.inl ⟨by rfl, ?_⟩) (by assumption) ?_
      rotate_left
      focus (intro w hSw; (try dsimp only at hSw); go_simp; try with_reducible rfl)
      try simp only [Act.put, List.setIfInBounds_toArray, List.set_cons_zero, List.set_cons_succ]
      refine wpAnyH_take (i := 11) (v := ?_) rfl (by kernel_rfl) (by kernel_rfl) (by kernel_rfl) (fun _ _ _ h => h) (Or.inl ⟨by rfl, ?_⟩) (by assumption) ?_
      rotate_left
      focus (intro w hSw; (try dsimp only at hSw); go_simp; try with_reducible rfl)
      try simp only [Act.put, List.setIfInBounds_toArray, List.set_cons_zero, List.set_cons_succ]
      refine wpAnyH_take (i := 12) (v := ?_) rfl (by kernel_rfl) (by kernel_rfl) (by kernel_rfl) (fun _ _ _ h => h) (Or.inl ⟨by rfl, ?_⟩) (by assumption) ?_
      rotate_left
      focus (intro w hSw; (try dsimp only at hSw); go_simp; try with_reducible rfl)
      try simp only [Act.put, List.setIfInBounds_toArray, List.set_cons_zero, List.set_cons_succ]
      refine wpAnyH_take (i := 13) (v := ?_) rfl (by kernel_rfl) (by kernel_rfl) (by kernel_rfl) (fun _ _ _ h => h) (Or.inl ⟨by rfl, ?_⟩) (by assumption) ?_
      rotate_left
      focus (intro w hSw; (try dsimp only at hSw); go_simp; try with_reducible rfl)
      try simp only [Act.put, List.setIfInBounds_toArray, List.set_cons_zero, List.set_cons_succ]
      refine wpAnyH_take (i := 14) (v := ?_) rfl (by kernel_rfl) (by kernel_rfl) (by kernel_rfl) (fun _ _ _ h => h) (Or.inl ⟨by rfl, ?_⟩) (by assumption) ?_
      rotate_left
      focus (intro w hSw; (try dsimp only at hSw); go_simp; try with_reducible rfl)
      try simp only [Act.put, List.setIfInBounds_toArray, List.set_cons_zero, List.set_cons_succ]
      refine wpAnyH_take (i := 15) (v := ?_) rfl (by kernel_rfl) (by kernel_rfl) (by kernel_rfl) (fun _ _ _ h => h) (Or.inl ⟨by rfl, ?_⟩) (by assumption) ?_
      rotate_left
      focus (intro w hSw; (try dsimp only at hSw); go_simp; try with_reducible rfl)
      try simp only [Act.put, List.setIfInBounds_toArray, List.set_cons_zero, List.set_cons_succ]
      refine wpAnyH_take (i := 16) (v := ?_) rfl (by kernel_rfl) (by kernel_rfl) (by kernel_rfl) (fun _ _ _ h => h) (Or.inl ⟨by rfl, ?_⟩) (by assumption) ?_
      rotate_left
      focus (intro w hSw; (try dsimp only at hSw); go_simp; try with_reducible rfl)
      try simp only [Act.put, List.setIfInBounds_toArray, List.set_cons_zero, List.set_cons_succ]
      refine wpAnyH_take (i := 17) (v := ?_) rfl (by kernel_rfl) (by kernel_rfl) (by kernel_rfl) (fun _ _ _ h => h) (Or.inl ⟨by rfl, ?_⟩) (by assumption) ?_
      rotate_left
      focus (intro w hSw; (try dsimp only at hSw); go_simp; try with_reducible rfl)
      try simp only [Act.put, List.setIfInBounds_toArray, List.set_cons_zero, List.set_cons_succ]
      refine wpAnyH_take (i := 18) (v := ?_) rfl (by kernel_rfl) (by kernel_rfl) (by kernel_rfl) (fun _ _ _ h => h) (Or.inl ⟨by rfl, ?_⟩) (by assumption) ?_
      rotate_left
      focus (intro w hSw; (try dsimp only at hSw); go_simp; try with_reducible rfl)
      try simp only [Act.put, List.setIfInBounds_toArray, List.set_cons_zero, List.set_cons_succ]
      refine wpAnyH_take (i := 19) (v := ?_) rfl (by kernel_rfl) (by kernel_rfl) (by kernel_rfl) (fun _ _ _ h => h) (Or.inl ⟨by rfl, ?_⟩) (by assumption) ?_
      rotate_left
      focus (intro w hSw; (try dsimp only at hSw); go_simp; try with_reducible rfl)
      try simp only [Act.put, List.setIfInBounds_toArray, List.set_cons_zero, List.set_cons_succ]
      refine wpAnyH_ready (rs := [4, 20]) (by kernel_rfl) (by simp) ?_
      refine AllReadyH.cons (i := 4) rfl (fun K hK => ?_) (AllReadyH.cons (i := 20) rfl (fun K hK => ?_) AllReadyH.nil)
      · go_simp
        refine hK.out _ _ ?_ (fun hHeld => ?_)
        focus ((try dsimp only); assumption)
        clear hK K
        try simp only [Act.put, List.setIfInBounds_toArray, List.set_cons_zero, List.set_cons_succ]
        refine wpAnyH_ready (rs := [20]) (by kernel_rfl) (by simp) ?_
        refine AllReadyH.cons (i := 20) rfl (fun K hK => ?_) AllReadyH.nil
        go_simp
        refine hK.out _ _ ?_ (fun hHeld => ?_)
        focus ((try dsimp only); go_keep)
        clear hK K
        try simp only [Act.put, List.setIfInBounds_toArray, List.set_cons_zero, List.set_cons_succ]
        refine wpAnyH_ready (rs := [21]) (by kernel_rfl) (by simp) ?_
        refine AllReadyH.cons (i := 21) rfl (fun K hK => ?_) AllReadyH.nil
        (refine step_append_lies _ (by rfl) (.tmp 54) (.tmp 70) 82 (by rfl) (b + 1) 87 i0 (.agg #[.int .i64 0, .int .i64 0, .int .i64 0, .int .i64 0, .int .i64 0]) 5 40 Tryd.underlying82 hi0 hz0 hz1 hz2 rfl (by decide) sv k (pcs c i k) (by simp [Act.eval]) (own_ext PR3.out.own (by repeat (first | with_reducible exact Ext.refl _ | with_reducible refine Ext.drew ?_ | with_reducible refine Ext.alloc ?_ _))) ⟨w3.heap.size, 0, none⟩ 1 1 [.int .i64 x, .int .i64 (sS c i k), .int .i64 s, .int .i64 (sG c i k), .int .i64 pe] (by simp [Act.eval]) rfl (fun j u hu => by first | exact NB1.out j u hu | exact NB2.out j u hu) (pc5_one ⟨x, sS c i k, s, sG c i k, pe⟩) (by decide) (by unfold maxLen; omega) (by omega) (by simp; omega) (w3.heap.size + 1) (by simp) ?_; intro g cap w4 hown hgrow hat hltg; obtain ⟨q0, q1, q2, q3, qf, h4⟩ := PR3.out.grown (by repeat (first | with_reducible exact Ext.refl _ | with_reducible refine Ext.drew ?_ | with_reducible refine Ext.alloc ?_ _)) hgrow; have q4 := (box6 h4).2.1; have qf0 := qf 0; have qf1 := qf 1; have qf2 := qf 2)
        refine hK.out _ _ ?_ (fun hHeld => ?_)
        focus ((try dsimp only); exact ⟨q1, q2, q4⟩)
        clear hK K
        try simp only [Act.put, List.setIfInBounds_toArray, List.set_cons_zero, List.set_cons_succ]
        refine wpAnyH_take (i := 22) (v := ?_) rfl (by kernel_rfl) (by kernel_rfl) (by kernel_rfl) (fun _ _ _ h => h) (Or.inl ⟨by rfl, ?_⟩) (by assumption) ?_
        rotate_left
        focus (intro w hSw; (try dsimp only at hSw); go_simp; try with_reducible rfl)
        try simp only [Act.put, List.setIfInBounds_toArray, List.set_cons_zero, List.set_cons_succ]
        refine wpAnyH_take (i := 23) (v := ?_) rfl (by kernel_rfl) (by kernel_rfl) (by kernel_rfl) (fun _ _ _ h => h) (Or.inl ⟨by rfl, ?_⟩) (by assumption) ?_
        rotate_left
        focus (intro w hSw; (try dsimp only at hSw); go_simp; try with_reducible rfl)
        try simp only [Act.put, List.setIfInBounds_toArray, List.set_cons_zero, List.set_cons_succ]
        refine wpAnyH_ready (rs := [24]) (by kernel_rfl) (by simp) ?_
        refine AllReadyH.cons (i := 24) rfl (fun K hK => ?_) AllReadyH.nil
        go_simp
        refine hK.out _ _ ?_ (fun hHeld => ?_)
        focus ((try dsimp only); exact ⟨stOth (by decide) q1, stOth (by decide) q2, (cell_far _ _ _ _ hbw).trans q4⟩)
        clear hK K
        try simp only [Act.put, List.setIfInBounds_toArray, List.set_cons_zero, List.set_cons_succ]
        refine wpAnyH_done (by kernel_rfl) ?_ _
        refine NoPanic.normal ?_
        have hown2 := Lib.hid hown
        rw [← PS.out] at hown2
        clear hown hgrow hat hltg q4 b0 b1 b2 b3 b4 b5 n0 n1 NB1 NB2 hwp x0 xq
        go_wp2_with fail
        go_roundw
        case rel => exact ⟨k + 1, .slice (some ⟨g, 0, none⟩) (k + 1) cap, by omega, by go_num, PlanR.step q0 q1 q2 q3 qf h4 PR3.out.lo hown2.out (by rw [SS.out]) (by rw [SG.out])⟩
        case measure => simp [intOf]; omega
      · go_simp
        refine hK.out _ _ ?_ (fun hHeld => ?_)
        focus ((try dsimp only); go_keep)
        clear hK K
        try simp only [Act.put, List.setIfInBounds_toArray, List.set_cons_zero, List.set_cons_succ]
        refine wpAnyH_ready (rs := [4]) (by kernel_rfl) (by simp) ?_
        refine AllReadyH.cons (i := 4) rfl (fun K hK => ?_) AllReadyH.nil
        go_simp
        refine hK.out _ _ ?_ (fun hHeld => ?_)
        focus ((try dsimp only); assumption)
        clear hK K
        try simp only [Act.put, List.setIfInBounds_toArray, List.set_cons_zero, List.set_cons_succ]
        refine wpAnyH_ready (rs := [21]) (by kernel_rfl) (by simp) ?_
        refine AllReadyH.cons (i := 21) rfl (fun K hK => ?_) AllReadyH.nil
        (refine step_append_lies _ (by rfl) (.tmp 54) (.tmp 70) 82 (by rfl) (b + 1) 87 i0 (.agg #[.int .i64 0, .int .i64 0, .int .i64 0, .int .i64 0, .int .i64 0]) 5 40 Tryd.underlying82 hi0 hz0 hz1 hz2 rfl (by decide) sv k (pcs c i k) (by simp [Act.eval]) (own_ext PR3.out.own (by repeat (first | with_reducible exact Ext.refl _ | with_reducible refine Ext.drew ?_ | with_reducible refine Ext.alloc ?_ _))) ⟨w3.heap.size, 0, none⟩ 1 1 [.int .i64 x, .int .i64 (sS c i k), .int .i64 s, .int .i64 (sG c i k), .int .i64 pe] (by simp [Act.eval]) rfl (fun j u hu => by first | exact NB1.out j u hu | exact NB2.out j u hu) (pc5_one ⟨x, sS c i k, s, sG c i k, pe⟩) (by decide) (by unfold maxLen; omega) (by omega) (by simp; omega) (w3.heap.size + 1) (by simp) ?_; intro g cap w4 hown hgrow hat hltg; obtain ⟨q0, q1, q2, q3, qf, h4⟩ := PR3.out.grown (by repeat (first | with_reducible exact Ext.refl _ | with_reducible refine Ext.drew ?_ | with_reducible refine Ext.alloc ?_ _)) hgrow; have q4 := (box6 h4).2.1; have qf0 := qf 0; have qf1 := qf 1; have qf2 := qf 2)
        refine hK.out _ _ ?_ (fun hHeld => ?_)
        focus ((try dsimp only); exact ⟨q1, q2, q4⟩)
        clear hK K
        try simp only [Act.put, List.setIfInBounds_toArray, List.set_cons_zero, List.set_cons_succ]
        refine wpAnyH_take (i := 22) (v := ?_) rfl (by kernel_rfl) (by kernel_rfl) (by kernel_rfl) (fun _ _ _ h => h) (Or.inl ⟨by rfl, ?_⟩) (by assumption) ?_
        rotate_left
        focus (intro w hSw; (try dsimp only at hSw); go_simp; try with_reducible rfl)
        try simp only [Act.put, List.setIfInBounds_toArray, List.set_cons_zero, List.set_cons_succ]
        refine wpAnyH_take (i := 23) (v := ?_) rfl (by kernel_rfl) (by kernel_rfl) (by kernel_rfl) (fun _ _ _ h => h) (Or.inl ⟨by rfl, ?_⟩) (by assumption) ?_
        rotate_left
        focus (intro w hSw; (try dsimp only at hSw); go_simp; try with_reducible rfl)
        try simp only [Act.put, List.setIfInBounds_toArray, List.set_cons_zero, List.set_cons_succ]
        refine wpAnyH_ready (rs := [24]) (by kernel_rfl) (by simp) ?_
        refine AllReadyH.cons (i := 24) rfl (fun K hK => ?_) AllReadyH.nil
        go_simp
        refine hK.out _ _ ?_ (fun hHeld => ?_)
        focus ((try dsimp only); exact ⟨stOth (by decide) q1, stOth (by decide) q2, (cell_far _ _ _ _ hbw).trans q4⟩)
        clear hK K
        try simp only [Act.put, List.setIfInBounds_toArray, List.set_cons_zero, List.set_cons_succ]
        refine wpAnyH_done (by kernel_rfl) ?_ _
        refine NoPanic.normal ?_
        have hown2 := Lib.hid hown
        rw [← PS.out] at hown2
        clear hown hgrow hat hltg q4 b0 b1 b2 b3 b4 b5 n0 n1 NB1 NB2 hwp x0 xq
        go_wp2_with fail
        go_roundw
        case rel => exact ⟨k + 1, .slice (some ⟨g, 0, none⟩) (k + 1) cap, by omega, by go_num, PlanR.step q0 q1 q2 q3 qf h4 PR3.out.lo hown2.out (by rw [SS.out]) (by rw [SG.out])⟩
        case measure => simp [intOf]; omega
    · obtain rfl : k = c.cl.length := by omega
      obtain ⟨gp, hpl⟩ := PR.out.plan HO.out hi
      have HPL := Lib.hid hpl
      clear hpl
      go_wp2_with fail
      go_ret2
      exact ⟨b, gp, rfl, HPL.out, hx.trans h1⟩

end Go.Proofs.YtnbngcagnchkdaaDoor
