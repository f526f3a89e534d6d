/-
  The configuration of a greater quota, as commonagelaw06.ConfMore makes it: what lies in memory then.
-/
import Derived.Test.YtcnaabkimgkpbaaLaw06a
import Derived.Test.YtcnaabkimgkpbaaLaw06Q
import Derived.Test.YtcnaabkimgkpbaaLaw06b
import Derived.Test.YtcnaabkimgkpbaaOwnW
namespace Go.Proofs.Ytcnaabkimgkpbaa
open Go.RowKit

theorem setOther {W : World} {b i j : Nat} {u v : Value} (h : i ≠ j) (hc : W.cell? ⟨b, j, none⟩ = some v) : (W.setCell ⟨b, i, none⟩ u).cell? ⟨b, j, none⟩ = some v := by
  have := World.cell?_setCell_other W ⟨b, i, none⟩ ⟨b, j, none⟩ u (by intro e; cases e; exact h rfl)
  rw [this]; exact hc
theorem setSame {W : World} {b j : Nat} {u v : Value} (hc : W.cell? ⟨b, j, none⟩ = some v) : (W.setCell ⟨b, j, none⟩ u).cell? ⟨b, j, none⟩ = some u := World.cell?_setCell_same W _ _ hc
theorem Six.store {W : World} {b : Nat} {v0 v1 v2 v3 v4 v5 : Value} (h : Six W b v0 v1 v2 v3 v4 v5) (u0 u1 u2 u3 u4 u5 : Value) : Six ((((((W.setCell ⟨b, 0, none⟩ u0).setCell ⟨b, 1, none⟩ u1).setCell ⟨b, 2, none⟩ u2).setCell ⟨b, 3, none⟩ u3).setCell ⟨b, 4, none⟩ u4).setCell ⟨b, 5, none⟩ u5) b u0 u1 u2 u3 u4 u5 := by
  have n : ∀ {i j : Nat}, decide (i = j) = false → i ≠ j := fun h => by simpa using h
  refine ⟨?_, ?_, ?_, ?_, ?_, ?_, fun o => by simpa using h.fz o⟩
  · exact setOther (n rfl) (setOther (n rfl) (setOther (n rfl) (setOther (n rfl) (setOther (n rfl) (setSame (h.c0))))))
  · exact setOther (n rfl) (setOther (n rfl) (setOther (n rfl) (setOther (n rfl) (setSame (setOther (n rfl) (h.c1))))))
  · exact setOther (n rfl) (setOther (n rfl) (setOther (n rfl) (setSame (setOther (n rfl) (setOther (n rfl) (h.c2))))))
  · exact setOther (n rfl) (setOther (n rfl) (setSame (setOther (n rfl) (setOther (n rfl) (setOther (n rfl) (h.c3))))))
  · exact setOther (n rfl) (setSame (setOther (n rfl) (setOther (n rfl) (setOther (n rfl) (setOther (n rfl) (h.c4))))))
  · exact setSame (setOther (n rfl) (setOther (n rfl) (setOther (n rfl) (setOther (n rfl) (setOther (n rfl) (h.c5))))))
theorem TenAt.far {W : World} {g : Nat} {ts : List Ten} (h : TenAt W (some ⟨g, 0, none⟩) ts) {p : Addr} (hp : p.block ≠ g) (u : Value) : TenAt (W.setCell p u) (some ⟨g, 0, none⟩) ts := by
  intro i hi
  obtain ⟨b, o, e, e0, e1, e2, e3⟩ := h i hi
  cases e
  refine ⟨g, 0, rfl, ?_, ?_, ?_, ?_⟩ <;> (rw [World.cell?_setCell_far _ _ _ _ (by exact hp)]; assumption)
theorem TenAt.far6 {W : World} {g b : Nat} {ts : List Ten} (h : TenAt W (some ⟨g, 0, none⟩) ts) (hp : b ≠ g) (u0 u1 u2 u3 u4 u5 : Value) : TenAt ((((((W.setCell ⟨b, 0, none⟩ u0).setCell ⟨b, 1, none⟩ u1).setCell ⟨b, 2, none⟩ u2).setCell ⟨b, 3, none⟩ u3).setCell ⟨b, 4, none⟩ u4).setCell ⟨b, 5, none⟩ u5) (some ⟨g, 0, none⟩) ts :=
  (((((h.far (p := ⟨b, 0, none⟩) hp u0).far (p := ⟨b, 1, none⟩) hp u1).far (p := ⟨b, 2, none⟩) hp u2).far (p := ⟨b, 3, none⟩) hp u3).far (p := ⟨b, 4, none⟩) hp u4).far (p := ⟨b, 5, none⟩) hp u5
theorem Ext.set6 {w W : World} (h : Ext w W) {b : Nat} (hb : w.heap.size ≤ b) (u0 u1 u2 u3 u4 u5 : Value) : Ext w ((((((W.setCell ⟨b, 0, none⟩ u0).setCell ⟨b, 1, none⟩ u1).setCell ⟨b, 2, none⟩ u2).setCell ⟨b, 3, none⟩ u3).setCell ⟨b, 4, none⟩ u4).setCell ⟨b, 5, none⟩ u5) :=
  (((((h.setCell (p := ⟨b, 0, none⟩) hb u0).setCell (p := ⟨b, 1, none⟩) hb u1).setCell (p := ⟨b, 2, none⟩) hb u2).setCell (p := ⟨b, 3, none⟩) hb u3).setCell (p := ⟨b, 4, none⟩) hb u4).setCell (p := ⟨b, 5, none⟩) hb u5

/-- What stands behind 'o := api.Config{..}': o's box, and tenants of its own. -/
def MoreO (w w0 : World) (c : Conf) (ca : Option Addr) (cc : Nat) (v : Value) (W : World) : Prop :=
  ∃ b g gc, v = .pointer (some ⟨b, 0, none⟩) ∧ Ext w0 W ∧ Six W b (.slice ca c.cl.length cc) (.int .i64 c.page) (.slice (some ⟨g, 0, none⟩) c.ts.length gc) (.int .i64 c.wk) (.int .i64 c.gr) (.int .i64 c.gens) ∧
    TenAt W (some ⟨g, 0, none⟩) c.ts ∧ (∀ o, W.frozen? ⟨g, o, none⟩ = false) ∧ g ≠ b ∧ w.heap.size < b ∧ w.heap.size < g ∧ c.ts.length ≤ gc ∧ gc ≤ maxLen
theorem MoreO.new {w w0 w3 : World} {c : Conf} {ca : Option Addr} {cc g gc : Nat} {t : TypeId} (hx : Ext w0 w3) (ht : TenAt w3 (some ⟨g, 0, none⟩) c.ts) (hf : ∀ o, w3.frozen? ⟨g, o, none⟩ = false) (hg : g < w3.heap.size) (hw : w.heap.size < g) (h1 : c.ts.length ≤ gc) (h2 : gc ≤ maxLen) :
    MoreO w w0 c ca cc (.pointer (some ⟨w3.heap.size, 0, none⟩)) (w3.alloc (.cells #[.slice ca c.cl.length cc, .int .i64 c.page, .slice (some ⟨g, 0, none⟩) c.ts.length gc, .int .i64 c.wk, .int .i64 c.gr, .int .i64 c.gens] t)) :=
  ⟨_, g, gc, rfl, hx.alloc _, Six.new _ _ _ _ _ _ _ _ rfl, ht.ext ((Ext.refl _).alloc _), fun o => by rw [((Ext.refl w3).alloc _).frozen (p := ⟨g, o, none⟩) hg]; exact hf o, by omega, by omega, hw, h1, h2⟩
theorem MoreO.old {w w0 W : World} {c : Conf} {ca : Option Addr} {cc b g gc : Nat} {v0 v1 v2 v3 v4 v5 : Value} (hx : Ext w0 W) (hs : Six W b v0 v1 v2 v3 v4 v5) (hb0 : w0.heap.size ≤ b) (ht : TenAt W (some ⟨g, 0, none⟩) c.ts) (hf : ∀ o, W.frozen? ⟨g, o, none⟩ = false) (hb : b < g) (hw : w.heap.size < b) (h1 : c.ts.length ≤ gc) (h2 : gc ≤ maxLen) :
    MoreO w w0 c ca cc (.pointer (some ⟨b, 0, none⟩)) ((((((W.setCell ⟨b, 0, none⟩ (.slice ca c.cl.length cc)).setCell ⟨b, 1, none⟩ (.int .i64 c.page)).setCell ⟨b, 2, none⟩ (.slice (some ⟨g, 0, none⟩) c.ts.length gc)).setCell ⟨b, 3, none⟩ (.int .i64 c.wk)).setCell ⟨b, 4, none⟩ (.int .i64 c.gr)).setCell ⟨b, 5, none⟩ (.int .i64 c.gens)) :=
  ⟨b, g, gc, rfl, hx.set6 hb0 _ _ _ _ _ _, hs.store _ _ _ _ _ _, ht.far6 (by omega) _ _ _ _ _ _, fun o => by simpa using hf o, by omega, hw, by omega, h1, h2⟩

theorem far6 {W : World} {b b' k : Nat} (h : b ≠ b') {v0 v1 v2 v3 v4 v5 v : Value} (hc : W.cell? ⟨b', k, none⟩ = some v) : ((((((W.setCell ⟨b, 0, none⟩ v0).setCell ⟨b, 1, none⟩ v1).setCell ⟨b, 2, none⟩ v2).setCell ⟨b, 3, none⟩ v3).setCell ⟨b, 4, none⟩ v4).setCell ⟨b, 5, none⟩ v5).cell? ⟨b', k, none⟩ = some v := by
  rw [World.cell?_setCell_far _ _ _ _ (by exact h), World.cell?_setCell_far _ _ _ _ (by exact h), World.cell?_setCell_far _ _ _ _ (by exact h), World.cell?_setCell_far _ _ _ _ (by exact h), World.cell?_setCell_far _ _ _ _ (by exact h), World.cell?_setCell_far _ _ _ _ (by exact h)]
  exact hc

theorem conf_CheckN {ca ta : Option Addr} {cc tc : Nat} (d : Conf) (n : Nat) (p : Int) {w : World} (hn : d.ts.length = n) (hp : kcheck d = p) (h : CfgAt w ca ta cc tc d) :
    Calls Try.prog 21 #[.agg #[.slice ca d.cl.length cc, .int .i64 d.page, .slice ta n tc, .int .i64 d.wk, .int .i64 d.gr, .int .i64 d.gens]] w fun e w' => e = .returned (.int .i64 p) ∧ Ext w w' := by
  subst hn; exact conf_Check' d p hp h
theorem conf_RegionN {ca ta : Option Addr} {cc tc : Nat} (d : Conf) (n : Nat) (t p q : Int) {w : World} (hn : d.ts.length = n) (hpq : kregion d t = (p, q)) (h : CfgAt w ca ta cc tc d) :
    Calls Try.prog 24 #[.agg #[.slice ca d.cl.length cc, .int .i64 d.page, .slice ta n tc, .int .i64 d.wk, .int .i64 d.gr, .int .i64 d.gens], .int .i64 t] w fun e w' => e = .returned (.tuple #[.int .i64 p, .int .i64 q]) ∧ Ext w w' := by
  subst hn; exact conf_Region d t p q hpq h
theorem conf_SlotsN {ca ta : Option Addr} {cc tc : Nat} (d : Conf) (n : Nat) (t k p q : Int) {w : World} (hn : d.ts.length = n) (hpq : kslots d t k = (p, q)) (h : CfgAt w ca ta cc tc d) :
    Calls Try.prog 25 #[.agg #[.slice ca d.cl.length cc, .int .i64 d.page, .slice ta n tc, .int .i64 d.wk, .int .i64 d.gr, .int .i64 d.gens], .int .i64 t, .int .i64 k] w fun e w' => e = .returned (.tuple #[.int .i64 p, .int .i64 q]) ∧ Ext w w' := by
  subst hn; exact conf_Slots d t k p q hpq h
theorem conf_PagesN {ca ta : Option Addr} {cc tc : Nat} (d : Conf) (n : Nat) (t k p q : Int) {w : World} (hn : d.ts.length = n) (hpq : kpages d t k = (p, q)) (h : CfgAt w ca ta cc tc d) :
    Calls Try.prog 26 #[.agg #[.slice ca d.cl.length cc, .int .i64 d.page, .slice ta n tc, .int .i64 d.wk, .int .i64 d.gr, .int .i64 d.gens], .int .i64 t, .int .i64 k] w fun e w' => e = .returned (.tuple #[.int .i64 p, .int .i64 q]) ∧ Ext w w' := by
  subst hn; exact conf_Pages d t k p q hpq h

/-- The tenants with another quota, where one cell was stored. -/
theorem TenAt.quota {W : World} {g : Nat} {ts : List Ten} (h : TenAt W (some ⟨g, 0, none⟩) ts) {i : Nat} (hi : i < ts.length) (q : Int) :
    TenAt (W.setCell ⟨g, i * 4, none⟩ (.int .i64 q)) (some ⟨g, 0, none⟩) (ts.set i (tenQ (tnth ts i) q)) := by
  intro j hj
  rw [List.length_set] at hj
  obtain ⟨b, o, e, e0, e1, e2, e3⟩ := h j hj
  cases e
  rw [Nat.zero_add] at e0 e1 e2 e3
  rw [tnth_set hi]
  refine ⟨g, 0, rfl, ?_⟩
  rw [Nat.zero_add]
  by_cases c : i = j
  · subst c
    rw [if_pos rfl]
    exact ⟨setSame e0, setOther (by omega) e1, setOther (by omega) e2, setOther (by omega) e3⟩
  · rw [if_neg c]
    exact ⟨setOther (by omega) e0, setOther (by omega) e1, setOther (by omega) e2, setOther (by omega) e3⟩
theorem Six.far {W : World} {b : Nat} {v0 v1 v2 v3 v4 v5 : Value} (h : Six W b v0 v1 v2 v3 v4 v5) {p : Addr} (hp : p.block ≠ b) (u : Value) : Six (W.setCell p u) b v0 v1 v2 v3 v4 v5 := by
  refine ⟨?_, ?_, ?_, ?_, ?_, ?_, fun o => by simpa using h.fz o⟩
  · rw [World.cell?_setCell_far _ _ _ _ (by exact hp)]; exact h.c0
  · rw [World.cell?_setCell_far _ _ _ _ (by exact hp)]; exact h.c1
  · rw [World.cell?_setCell_far _ _ _ _ (by exact hp)]; exact h.c2
  · rw [World.cell?_setCell_far _ _ _ _ (by exact hp)]; exact h.c3
  · rw [World.cell?_setCell_far _ _ _ _ (by exact hp)]; exact h.c4
  · rw [World.cell?_setCell_far _ _ _ _ (by exact hp)]; exact h.c5

end Go.Proofs.Ytcnaabkimgkpbaa
