/-
  slices.Clone of numbers and of tenants, conf.Own, and commonageref06.Same: what each hands back, and that all that there was is as it was.
-/
import Derived.Test.YtmjgmgaklgcdnaaOwn
import Derived.Test.YtmjgmgaklgcdnaaRef06
import Derived.Deep.RegionHeld
import Derived.RegionTactic
import Derived.Deep.RegionWith
namespace Go.Proofs.Ytmjgmgaklgcdnaa
open Go.RowKit

theorem info_int : (Try.prog.info? 3).map (fun i => (i.zero, i.size, i.bytes)) = some (some (.int .i64 0), 1, 8) := by kernel_rfl
theorem info_ten : (Try.prog.info? 86).map (fun i => (i.zero, i.size, i.bytes)) = some (some (.agg #[.int .i64 0, .int .i64 0, .int .i64 0, .int .i64 0]), 4, 32) := by kernel_rfl

/-- A row of numbers of the call's own. -/
structure NewTens (w w' : World) (a : Option Addr) (cap : Nat) (ts : List Ten) : Prop where
  row : TenAt w' a ts
  cap1 : ts.length ≤ cap
  cap2 : cap ≤ maxLen
  own : 0 < ts.length → ∃ g, a = some ⟨g, 0, none⟩ ∧ w.heap.size ≤ g ∧ g < w'.heap.size ∧ ∀ o, w'.frozen? ⟨g, o, none⟩ = false

def ClonedTens (ts : List Ten) (w : World) (e : Ending) (w' : World) : Prop := ∃ a cap, e = .returned (.slice a ts.length cap) ∧ NewTens w w' a cap ts ∧ Ext w w'

theorem newTens_of {w w1 : World} {e : Nat} {v : Value} {ts : List Ten} (h : w1.ownsRow w.heap.size e 4 v ts.length (tcs ts)) : ∃ a cap, v = .slice a ts.length cap ∧ NewTens w w1 a cap ts := by
  rcases Nat.eq_zero_or_pos ts.length with c | c
  · obtain rfl := List.length_eq_zero_iff.1 c
    obtain ⟨_, ⟨rfl, _⟩ | ⟨g, cap, cur, rfl, hb, hh, hc, hm, hs, ht⟩⟩ := h
    · exact ⟨none, 0, rfl, fun i hi => absurd hi (Nat.not_lt_zero _), Nat.le_refl _, Nat.zero_le _, fun hi => absurd hi (Nat.lt_irrefl 0)⟩
    · exact ⟨_, cap, rfl, fun i hi => absurd hi (Nat.not_lt_zero _), hc, hm, fun hi => absurd hi (Nat.lt_irrefl 0)⟩
  · obtain ⟨g, cap, rfl, h1, h2, _, h4, h5, h6, h7⟩ := own_tens h c
    exact ⟨_, cap, rfl, h6, h4, h5, fun _ => ⟨g, rfl, h1, h2, h7⟩⟩

set_option maxHeartbeats 1000000 in
theorem clone_ints {a : Option Addr} {cap : Nat} (xs : List Int) {w : World} (h : At .i64 w a xs) (hb : xs.length * 8 ≤ 140737488355328) :
    Calls Try.prog 69 #[.slice a xs.length cap] w (ClonedInts .i64 xs w) := by
  obtain ⟨i0, hi0, hz0, hz1, hz2⟩ := info_parts info_int
  have he : ∀ (a : Option Addr) n c (w : World), (binOp .eql 22 (.slice a n c) (.slice none 0 0)).run Try.prog w = .ok (.bool a.isNone) w := fun a n c w => Lib.run_eql_slice_nil w _ _ a n c 0 0 Try.underlying22
  cases a with
  | none =>
    have hl : xs.length = 0 := by
      rcases Nat.eq_zero_or_pos xs.length with c | c
      · exact c
      · obtain ⟨b, o, e, _⟩ := h.pos c; cases e
    obtain rfl := List.length_eq_zero_iff.1 hl
    clear h
    go_enter Try.func69, Try.ntmps69
    go_wp2_with fail
    go_ret
    exact ⟨none, 0, rfl, ⟨fun i hi => absurd hi (Nat.not_lt_zero _), Nat.le_refl _, Nat.zero_le _, fun hi => absurd hi (Nat.lt_irrefl 0)⟩, Ext.refl w⟩
  | some ad =>
    have hnews : ∀ j u, (ncs .i64 xs)[j]? = some u → w.cell? (ad.add j) = some u := by
      intro j u hj
      have hl := (List.getElem?_eq_some_iff.1 hj).1
      rw [ncs_len] at hl
      obtain ⟨b, o, e, hc⟩ := h.pos (by omega)
      cases e
      exact ncs_news hc j u hj
    have HN := Lib.hid hnews; clear hnews h
    have hn63 : xs.length ≤ maxLen := by unfold maxLen; omega
    have HM := Lib.hid hn63; clear hn63
    go_enter Try.func69, Try.ntmps69
    go_wp2_with (at_builtin; refine wpList_append_own _ rfl (.tmp 5) (.tmp 6) 22 rfl w.heap.size 3 i0 (.int .i64 0) 1 8 Try.underlying22 hi0 hz0 hz1 hz2 rfl (by decide) (.slice (some ⟨w.heap.size, 0, none⟩) 0 0) 0 [] rfl (World.ownsRow_made _ #[] 0 (Nat.le_refl _) (by decide) rfl) ad xs.length cap (ncs .i64 xs) rfl (by rw [ncs_len, Nat.mul_one]) (fun j u hj => cell_alloc (HN.out j u hj) _) (ncs_one _ _) (by rw [Nat.zero_add]; exact HM.out) (by rw [Nat.zero_add]; exact hb) (by simp) ?_; intro v' w1 hown hgrow hnil)
    go_ret
    rw [Nat.zero_add, List.nil_append] at hown
    have hx : Ext w w1 := Ext.of (((Ext.refl w).alloc (.cells #[] 3)).below.grown hgrow (by simp) (fun k e => by cases e; exact Nat.le_refl _))
    obtain ⟨a', c', rfl, hn⟩ := newInts_of hown
    exact ⟨a', c', rfl, hn, hx⟩

set_option maxHeartbeats 1000000 in
theorem clone_tens {a : Option Addr} {cap : Nat} (xs : List Ten) {w : World} (h : TenAt w a xs) (hb : xs.length * 32 ≤ 140737488355328) :
    Calls Try.prog 82 #[.slice a xs.length cap] w (ClonedTens xs w) := by
  obtain ⟨i0, hi0, hz0, hz1, hz2⟩ := info_parts info_ten
  have he : ∀ (a : Option Addr) n c (w : World), (binOp .eql 23 (.slice a n c) (.slice none 0 0)).run Try.prog w = .ok (.bool a.isNone) w := fun a n c w => Lib.run_eql_slice_nil w _ _ a n c 0 0 Try.underlying23
  cases a with
  | none =>
    have hl : xs.length = 0 := by
      rcases Nat.eq_zero_or_pos xs.length with c | c
      · exact c
      · obtain ⟨b, o, e, _⟩ := h.pos c; cases e
    obtain rfl := List.length_eq_zero_iff.1 hl
    clear h
    go_enter Try.func82, Try.ntmps82
    go_wp2_with fail
    go_ret
    exact ⟨none, 0, rfl, ⟨fun i hi => absurd hi (Nat.not_lt_zero _), Nat.le_refl _, Nat.zero_le _, fun hi => absurd hi (Nat.lt_irrefl 0)⟩, Ext.refl w⟩
  | some ad =>
    have hnews : ∀ j u, (tcs xs)[j]? = some u → w.cell? (ad.add j) = some u := by
      intro j u hj
      have hl := (List.getElem?_eq_some_iff.1 hj).1
      rw [tcs_len] at hl
      obtain ⟨b, o, e, hc⟩ := h.pos (by omega)
      cases e
      exact tcs_news hc j u hj
    have HN := Lib.hid hnews; clear hnews h
    have hn63 : xs.length ≤ maxLen := by unfold maxLen; omega
    have HM := Lib.hid hn63; clear hn63
    go_enter Try.func82, Try.ntmps82
    go_wp2_with (at_builtin; refine wpList_append_own _ rfl (.tmp 5) (.tmp 6) 23 rfl w.heap.size 86 i0 (.agg #[.int .i64 0, .int .i64 0, .int .i64 0, .int .i64 0]) 4 32 Try.underlying23 hi0 hz0 hz1 hz2 rfl (by decide) (.slice (some ⟨w.heap.size, 0, none⟩) 0 0) 0 [] rfl (World.ownsRow_made _ #[] 0 (Nat.le_refl _) (by decide) rfl) ad xs.length cap (tcs xs) rfl (tcs_len _) (fun j u hj => cell_alloc (HN.out j u hj) _) (tcs_one _) (by rw [Nat.zero_add]; exact HM.out) (by rw [Nat.zero_add]; exact hb) (by simp) ?_; intro v' w1 hown hgrow hnil)
    go_ret
    rw [Nat.zero_add, List.nil_append] at hown
    have hx : Ext w w1 := Ext.of (((Ext.refl w).alloc (.cells #[] 86)).below.grown hgrow (by simp) (fun k e => by cases e; exact Nat.le_refl _))
    obtain ⟨a', c', rfl, hn⟩ := newTens_of hown
    exact ⟨a', c', rfl, hn, hx⟩

/-! ### conf.Own -/
/-- A block of six cells that may be written. -/
structure Six (w : World) (b : Nat) (v0 v1 v2 v3 v4 v5 : Value) : Prop where
  c0 : w.cell? ⟨b, 0, none⟩ = some v0
  c1 : w.cell? ⟨b, 1, none⟩ = some v1
  c2 : w.cell? ⟨b, 2, none⟩ = some v2
  c3 : w.cell? ⟨b, 3, none⟩ = some v3
  c4 : w.cell? ⟨b, 4, none⟩ = some v4
  c5 : w.cell? ⟨b, 5, none⟩ = some v5
  fz : ∀ o, w.frozen? ⟨b, o, none⟩ = false
theorem Six.lt {w : World} {b : Nat} {v0 v1 v2 v3 v4 v5 : Value} (h : Six w b v0 v1 v2 v3 v4 v5) : b < w.heap.size := cell_lt h.c0
theorem Six.ext {w w' : World} {b : Nat} {v0 v1 v2 v3 v4 v5 : Value} (h : Six w b v0 v1 v2 v3 v4 v5) (hx : Ext w w') : Six w' b v0 v1 v2 v3 v4 v5 :=
  ⟨hx.cell h.c0, hx.cell h.c1, hx.cell h.c2, hx.cell h.c3, hx.cell h.c4, hx.cell h.c5, fun o => by rw [hx.frozen (p := ⟨b, o, none⟩) h.lt]; exact h.fz o⟩
theorem Six.new (w : World) (v0 v1 v2 v3 v4 v5 : Value) (t : TypeId) {b : Nat} (hb : w.heap.size = b) : Six (w.alloc (.cells #[v0, v1, v2, v3, v4, v5] t)) b v0 v1 v2 v3 v4 v5 := by
  subst hb
  exact ⟨cell_newN w _ t 0, cell_newN w _ t 1, cell_newN w _ t 2, cell_newN w _ t 3, cell_newN w _ t 4, cell_newN w _ t 5, fun o => World.frozen?_alloc_at _ _ _ _ rfl⟩

theorem NewTens.lower {w W0 w' : World} {a : Option Addr} {cap : Nat} {xs : List Ten} (h : NewTens W0 w' a cap xs) (hl : w.heap.size ≤ W0.heap.size) : NewTens w w' a cap xs :=
  ⟨h.row, h.cap1, h.cap2, fun h0 => by obtain ⟨g, e, h1, h2⟩ := h.own h0; exact ⟨g, e, Nat.le_trans hl h1, h2⟩⟩
theorem NewTens.ext {W0 w' w'' : World} {a : Option Addr} {cap : Nat} {xs : List Ten} (h : NewTens W0 w' a cap xs) (hx : Ext w' w'') : NewTens W0 w'' a cap xs :=
  ⟨h.row.ext hx, h.cap1, h.cap2, fun h0 => by
    obtain ⟨g, e, h1, h2, h3⟩ := h.own h0
    exact ⟨g, e, h1, Nat.lt_of_lt_of_le h2 hx.size, fun o => by rw [hx.frozen (p := ⟨g, o, none⟩) h2]; exact h3 o⟩⟩
theorem NewTens.setCell {W0 w' : World} {a : Option Addr} {cap : Nat} {xs : List Ten} (h : NewTens W0 w' a cap xs) {p : Addr} (hp : p.block < W0.heap.size) (u : Value) : NewTens W0 (w'.setCell p u) a cap xs := by
  refine ⟨fun i hi => ?_, h.cap1, h.cap2, fun h0 => ?_⟩
  · obtain ⟨g, rfl, h1, _⟩ := h.own (by omega)
    obtain ⟨b, o, e, e0, e1, e2, e3⟩ := h.row i hi
    cases e
    refine ⟨g, 0, rfl, ?_, ?_, ?_, ?_⟩ <;> (rw [World.cell?_setCell_far _ _ _ _ (by show p.block ≠ g; omega)]; assumption)
  · obtain ⟨g, e, h1, h2, h3⟩ := h.own h0
    exact ⟨g, e, h1, by simpa using h2, fun o => by simpa using h3 o⟩

def OwnedCfg (c : Conf) (w : World) (e : Ending) (w' : World) : Prop :=
  ∃ ca ta cc tc, e = .returned (.agg #[.slice ca c.cl.length cc, .int .i64 c.page, .slice ta c.ts.length tc, .int .i64 c.wk, .int .i64 c.gr, .int .i64 c.gens]) ∧ NewInts .i64 w w' ca cc c.cl ∧ NewTens w w' ta tc c.ts ∧ (∀ x y, ca = some ⟨x, 0, none⟩ → ta = some ⟨y, 0, none⟩ → 0 < c.cl.length → 0 < c.ts.length → x ≠ y) ∧ Ext w w'

/-- What conf.Own's road knows of a world: all old things are as they were, and its two boxes. -/
structure OwnRoad (w W : World) (ca ta : Option Addr) (cc tc : Nat) (c : Conf) : Prop where
  ext : Ext w W
  box : Six W w.heap.size (.slice ca c.cl.length cc) (.int .i64 c.page) (.slice ta c.ts.length tc) (.int .i64 c.wk) (.int .i64 c.gr) (.int .i64 c.gens)
  res : Six W (w.heap.size + 1) (.slice none 0 0) (.int .i64 0) (.slice none 0 0) (.int .i64 0) (.int .i64 0) (.int .i64 0)
theorem OwnRoad.go {w W W' : World} {ca ta : Option Addr} {cc tc : Nat} {c : Conf} (h : OwnRoad w W ca ta cc tc c) (hx : Ext W W') : OwnRoad w W' ca ta cc tc c := ⟨h.ext.trans hx, h.box.ext hx, h.res.ext hx⟩
theorem OwnRoad.size {w W : World} {ca ta : Option Addr} {cc tc : Nat} {c : Conf} (h : OwnRoad w W ca ta cc tc c) : w.heap.size + 1 < W.heap.size := h.res.lt

theorem NewInts.fin {w W0 W : World} {k : IntKind} {a : Option Addr} {cap : Nat} {xs : List Int} (h : NewInts k W0 W a cap xs) (hs : w.heap.size + 1 < W0.heap.size) {o0 o1 n0 n1 n2 n3 n4 n5 : Nat} {u0 u1 x0 x1 x2 x3 x4 x5 : Value} :
    NewInts k w ((((((((W.setCell ⟨w.heap.size, o0, none⟩ u0).setCell ⟨w.heap.size, o1, none⟩ u1).setCell ⟨w.heap.size + 1, n0, none⟩ x0).setCell ⟨w.heap.size + 1, n1, none⟩ x1).setCell ⟨w.heap.size + 1, n2, none⟩ x2).setCell ⟨w.heap.size + 1, n3, none⟩ x3).setCell ⟨w.heap.size + 1, n4, none⟩ x4).setCell ⟨w.heap.size + 1, n5, none⟩ x5) a cap xs :=
  ((((((((h.setCell (p := ⟨w.heap.size, o0, none⟩) (show w.heap.size < _ by omega) u0).setCell (p := ⟨w.heap.size, o1, none⟩) (show w.heap.size < _ by omega) u1).setCell (p := ⟨w.heap.size + 1, n0, none⟩) (show w.heap.size + 1 < _ by omega) x0).setCell (p := ⟨w.heap.size + 1, n1, none⟩) (show w.heap.size + 1 < _ by omega) x1).setCell (p := ⟨w.heap.size + 1, n2, none⟩) (show w.heap.size + 1 < _ by omega) x2).setCell (p := ⟨w.heap.size + 1, n3, none⟩) (show w.heap.size + 1 < _ by omega) x3).setCell (p := ⟨w.heap.size + 1, n4, none⟩) (show w.heap.size + 1 < _ by omega) x4).setCell (p := ⟨w.heap.size + 1, n5, none⟩) (show w.heap.size + 1 < _ by omega) x5).lower (by omega)
theorem NewTens.fin {w W0 W : World} {a : Option Addr} {cap : Nat} {xs : List Ten} (h : NewTens W0 W a cap xs) (hs : w.heap.size + 1 < W0.heap.size) {o0 o1 n0 n1 n2 n3 n4 n5 : Nat} {u0 u1 x0 x1 x2 x3 x4 x5 : Value} :
    NewTens w ((((((((W.setCell ⟨w.heap.size, o0, none⟩ u0).setCell ⟨w.heap.size, o1, none⟩ u1).setCell ⟨w.heap.size + 1, n0, none⟩ x0).setCell ⟨w.heap.size + 1, n1, none⟩ x1).setCell ⟨w.heap.size + 1, n2, none⟩ x2).setCell ⟨w.heap.size + 1, n3, none⟩ x3).setCell ⟨w.heap.size + 1, n4, none⟩ x4).setCell ⟨w.heap.size + 1, n5, none⟩ x5) a cap xs :=
  ((((((((h.setCell (p := ⟨w.heap.size, o0, none⟩) (show w.heap.size < _ by omega) u0).setCell (p := ⟨w.heap.size, o1, none⟩) (show w.heap.size < _ by omega) u1).setCell (p := ⟨w.heap.size + 1, n0, none⟩) (show w.heap.size + 1 < _ by omega) x0).setCell (p := ⟨w.heap.size + 1, n1, none⟩) (show w.heap.size + 1 < _ by omega) x1).setCell (p := ⟨w.heap.size + 1, n2, none⟩) (show w.heap.size + 1 < _ by omega) x2).setCell (p := ⟨w.heap.size + 1, n3, none⟩) (show w.heap.size + 1 < _ by omega) x3).setCell (p := ⟨w.heap.size + 1, n4, none⟩) (show w.heap.size + 1 < _ by omega) x4).setCell (p := ⟨w.heap.size + 1, n5, none⟩) (show w.heap.size + 1 < _ by omega) x5).lower (by omega)
theorem Ext.fin {w W : World} (h : Ext w W) {o0 o1 n0 n1 n2 n3 n4 n5 : Nat} {u0 u1 x0 x1 x2 x3 x4 x5 : Value} : Ext w ((((((((W.setCell ⟨w.heap.size, o0, none⟩ u0).setCell ⟨w.heap.size, o1, none⟩ u1).setCell ⟨w.heap.size + 1, n0, none⟩ x0).setCell ⟨w.heap.size + 1, n1, none⟩ x1).setCell ⟨w.heap.size + 1, n2, none⟩ x2).setCell ⟨w.heap.size + 1, n3, none⟩ x3).setCell ⟨w.heap.size + 1, n4, none⟩ x4).setCell ⟨w.heap.size + 1, n5, none⟩ x5) :=
  ((((((((h.setCell (p := ⟨w.heap.size, o0, none⟩) (Nat.le_refl _) u0).setCell (p := ⟨w.heap.size, o1, none⟩) (Nat.le_refl _) u1).setCell (p := ⟨w.heap.size + 1, n0, none⟩) (Nat.le_succ _) x0).setCell (p := ⟨w.heap.size + 1, n1, none⟩) (Nat.le_succ _) x1).setCell (p := ⟨w.heap.size + 1, n2, none⟩) (Nat.le_succ _) x2).setCell (p := ⟨w.heap.size + 1, n3, none⟩) (Nat.le_succ _) x3).setCell (p := ⟨w.heap.size + 1, n4, none⟩) (Nat.le_succ _) x4).setCell (p := ⟨w.heap.size + 1, n5, none⟩) (Nat.le_succ _) x5)

theorem own_sep1 {Wa W1 Wb W2 : World} {k : IntKind} {a1 a2 : Option Addr} {k1 k2 : Nat} {cl : List Int} {ts : List Ten} (hn1 : NewInts k Wa W1 a1 k1 cl) (hn2 : NewTens Wb W2 a2 k2 ts) (hs : W1.heap.size ≤ Wb.heap.size) :
    ∀ x y, a1 = some ⟨x, 0, none⟩ → a2 = some ⟨y, 0, none⟩ → 0 < cl.length → 0 < ts.length → x ≠ y := by
  intro x y e1 e2 h1 h2
  obtain ⟨g1, f1, _, p1, _⟩ := hn1.own h1
  obtain ⟨g2, f2, p2, _⟩ := hn2.own h2
  rw [f1] at e1; rw [f2] at e2; cases e1; cases e2; omega
theorem own_sep2 {Wa W1 Wb W2 : World} {k : IntKind} {a1 a2 : Option Addr} {k1 k2 : Nat} {cl : List Int} {ts : List Ten} (hn2 : NewTens Wa W2 a2 k2 ts) (hn1 : NewInts k Wb W1 a1 k1 cl) (hs : W2.heap.size ≤ Wb.heap.size) :
    ∀ x y, a1 = some ⟨x, 0, none⟩ → a2 = some ⟨y, 0, none⟩ → 0 < cl.length → 0 < ts.length → x ≠ y := by
  intro x y e1 e2 h1 h2
  obtain ⟨g1, f1, p1, _⟩ := hn1.own h1
  obtain ⟨g2, f2, _, p2, _⟩ := hn2.own h2
  rw [f1] at e1; rw [f2] at e2; cases e1; cases e2; omega

set_option linter.unusedSimpArgs false in
set_option maxHeartbeats 4000000 in
theorem conf_Own {ca ta : Option Addr} {cc tc : Nat} (c : Conf) {w : World} (h : CfgAt w ca ta cc tc c) (b1 : c.cl.length ≤ 50) (b2 : c.ts.length ≤ 50) :
    Calls Try.prog 47 #[.agg #[.slice ca c.cl.length cc, .int .i64 c.page, .slice ta c.ts.length tc, .int .i64 c.wk, .int .i64 c.gr, .int .i64 c.gens]] w (OwnedCfg c w) := by
  have H := Lib.hid h; clear h
  have B1 := Lib.hid b1; have B2 := Lib.hid b2; clear b1 b2
  have hs0 : OwnRoad w ((w.alloc (.cells #[.slice ca c.cl.length cc, .int .i64 c.page, .slice ta c.ts.length tc, .int .i64 c.wk, .int .i64 c.gr, .int .i64 c.gens] 25)).alloc (.cells #[.slice none 0 0, .int .i64 0, .slice none 0 0, .int .i64 0, .int .i64 0, .int .i64 0] 25)) ca ta cc tc c :=
    ⟨((Ext.refl w).alloc _).alloc _, (Six.new _ _ _ _ _ _ _ _ rfl).ext ((Ext.refl _).alloc _), Six.new _ _ _ _ _ _ _ _ (by simp)⟩
  have hs0 := hs0.go ((Ext.refl _).drew)
  have S0 := Lib.hid hs0.size
  go_enter Try.func47, Try.ntmps47
  go_wp2_with fail
  go_region_with (first | (go_at_call 69; refine (clone_ints c.cl (H.out.cl.ext (OwnRoad.ext (ca := ca) (ta := ta) (cc := cc) (tc := tc) (c := c) ?_)) (by have := B1.out; omega)).mono ?_; assumption; rintro e w1 ⟨a1, k1, rfl, hn1, hE1⟩; have hs1 : OwnRoad w w1 ca ta cc tc c := OwnRoad.go (by assumption) hE1; have s1 : w.heap.size + 1 < w1.heap.size := hs1.size; have c01 := hs1.box.c0; have c21 := hs1.box.c2; have f01 := hs1.box.fz 0; have f21 := hs1.box.fz 2) | (go_at_call 82; refine (clone_tens c.ts (H.out.ts.ext (OwnRoad.ext (ca := ca) (ta := ta) (cc := cc) (tc := tc) (c := c) ?_)) (by have := B2.out; omega)).mono ?_; assumption; rintro e w2 ⟨a2, k2, rfl, hn2, hE2⟩; have hs2 : OwnRoad w w2 ca ta cc tc c := OwnRoad.go (by assumption) hE2; have s2 : w.heap.size + 1 < w2.heap.size := hs2.size; have c02 := hs2.box.c0; have c22 := hs2.box.c2; have f02 := hs2.box.fz 0; have f22 := hs2.box.fz 2))
  all_goals
    have g1 := hs1.box; have g2 := hs2.box; have r1 := hs1.res; have r2 := hs2.res
    clear c01 c21 f01 f21 c02 c22 f02 f22 hs0
    obtain ⟨c01, c11, c21, c31, c41, c51, f1⟩ := g1
    obtain ⟨c02, c12, c22, c32, c42, c52, f2⟩ := g2
    obtain ⟨d01, d11, d21, d31, d41, d51, e1⟩ := r1
    obtain ⟨d02, d12, d22, d32, d42, d52, e2⟩ := r2
    go_wp2_with fail
    refine bodyPost_ret (v := .agg #[.slice a1 c.cl.length k1, .int .i64 c.page, .slice a2 c.ts.length k2, .int .i64 c.wk, .int .i64 c.gr, .int .i64 c.gens]) (by simp [results, Try.results47, go_sem, c01, c11, c21, c31, c41, c51, d01, d11, d21, d31, d41, d51, c02, c12, c22, c32, c42, c52, d02, d12, d22, d32, d42, d52]) rfl ⟨a1, a2, k1, k2, rfl, ?_, ?_, ?_, ?_⟩
    · first | with_reducible exact NewInts.fin hn1 S0.out | with_reducible exact NewInts.fin hn1 s2 | with_reducible exact NewInts.fin (hn1.ext hE2) S0.out
    · first | with_reducible exact NewTens.fin hn2 S0.out | with_reducible exact NewTens.fin hn2 s1 | with_reducible exact NewTens.fin (hn2.ext hE1) S0.out
    · first | exact own_sep1 hn1 hn2 (by simp) | exact own_sep2 hn2 hn1 (by simp)
    · first | with_reducible exact Ext.fin hs1.ext | with_reducible exact Ext.fin hs2.ext

end Go.Proofs.Ytmjgmgaklgcdnaa
