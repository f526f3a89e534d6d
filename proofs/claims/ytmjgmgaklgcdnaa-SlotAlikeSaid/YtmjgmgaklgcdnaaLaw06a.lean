/-
  The document's example of a configuration, and commonagelaw06's awake.
-/
import Derived.Test.YtmjgmgaklgcdnaaRef06
namespace Go.Proofs.Ytmjgmgaklgcdnaa
open Go.RowKit

def exC : Conf := ⟨[2, 4], 8, [⟨20, 8, 4, 1⟩, ⟨4, 1, 1, 0⟩], 1, 2, 3⟩

theorem TenAt.newb (w : World) (ts : List Ten) (vs : Array Value) (t : TypeId) (b : Nat) (hb : w.heap.size = b) (h : ∀ i, i < ts.length → vs[i * 4]? = some (.int .i64 (tnth ts i).q) ∧ vs[i * 4 + 1]? = some (.int .i64 (tnth ts i).tr) ∧ vs[i * 4 + 2]? = some (.int .i64 (tnth ts i).cp) ∧ vs[i * 4 + 3]? = some (.int .i64 (tnth ts i).sst)) :
    TenAt (w.alloc (.cells vs t)) (some ⟨b, 0, none⟩) ts := by
  subst hb
  intro i hi
  obtain ⟨h0, h1, h2, h3⟩ := h i hi
  refine ⟨_, 0, rfl, ?_, ?_, ?_, ?_⟩
  · rw [Nat.zero_add, cell_newN]; exact h0
  · rw [Nat.zero_add, cell_newN]; exact h1
  · rw [Nat.zero_add, cell_newN]; exact h2
  · rw [Nat.zero_add, cell_newN]; exact h3

def IsExample (w : World) (e : Ending) (w' : World) : Prop :=
  ∃ ca ta, e = .returned (.agg #[.slice ca 2 2, .int .i64 8, .slice ta 2 2, .int .i64 1, .int .i64 2, .int .i64 3]) ∧ CfgAt w' ca ta 2 2 exC ∧ Ext w w'

set_option maxHeartbeats 2000000 in
theorem law06_example (w : World) : Calls Try.prog 81 #[] w (IsExample w) := by
  go_enter Try.func81, Try.ntmps81
  go_wp2_with fail
  refine bodyPost_ret (v := .agg #[.slice (some ⟨w.heap.size + 1, 0, none⟩) 2 2, .int .i64 8, .slice (some ⟨w.heap.size + 1 + 1, 0, none⟩) 2 2, .int .i64 1, .int .i64 2, .int .i64 3]) (by simp [results, Try.results81, go_sem]) rfl ⟨_, _, rfl, ?_, ?_⟩
  · refine ⟨(At.newb .i64 _ [2, 4] 3 _ (by simp)).ext ((Ext.refl _).alloc _), TenAt.newb _ _ _ _ _ (by simp) ?_, by decide, by decide, by decide, by decide, by decide, by decide⟩
    intro i hi
    have h2 : i < 2 := hi
    match i, h2 with
    | 0, _ => exact ⟨rfl, rfl, rfl, rfl⟩
    | 1, _ => exact ⟨rfl, rfl, rfl, rfl⟩
  · exact (((Ext.refl w).alloc _).alloc _).alloc _

theorem CBox.mk6 {w : World} {b : Nat} {ca ta : Option Addr} {cc tc : Nat} {c : Conf} (h0 : w.cell? ⟨b, 0, none⟩ = some (.slice ca c.cl.length cc)) (h1 : w.cell? ⟨b, 1, none⟩ = some (.int .i64 c.page))
    (h2 : w.cell? ⟨b, 2, none⟩ = some (.slice ta c.ts.length tc)) (h3 : w.cell? ⟨b, 3, none⟩ = some (.int .i64 c.wk)) (h4 : w.cell? ⟨b, 4, none⟩ = some (.int .i64 c.gr)) (h5 : w.cell? ⟨b, 5, none⟩ = some (.int .i64 c.gens)) : CBox w b ca ta cc tc c := ⟨h0, h1, h2, h3, h4, h5⟩

def exC3 : Conf := ⟨[2, 4], 3, [⟨20, 8, 4, 1⟩, ⟨4, 1, 1, 0⟩], 1, 2, 3⟩

set_option maxHeartbeats 4000000 in
theorem law06_awake (w : World) : Calls Try.prog 46 #[] w fun e w' => e = .returned (.bool true) ∧ Ext w w' := by
  go_enter Try.func46, Try.ntmps46
  go_wp2_with fail
  refine (law06_example w).mono ?_
  rintro e w0 ⟨ca, ta, rfl, hc, hx⟩
  have HC := Lib.hid hc
  clear hc
  go_wp2_with fail
  have h1 := Ext.refl (w0.alloc (.cells #[.slice ca 2 2, .int .i64 8, .slice ta 2 2, .int .i64 1, .int .i64 2, .int .i64 3] 25))
  have h0 := (Ext.refl w0).alloc (.cells #[.slice ca 2 2, .int .i64 8, .slice ta 2 2, .int .i64 1, .int .i64 2, .int .i64 3] 25)
  try clear b0 b1 b2 b3 b4 b5
  refine (conf_Slots exC 0 1 5 0 (by decide) (HC.out.ext (h0.trans h1))).mono ?_
  rintro e w1 ⟨rfl, h2⟩
  replace h1 := h1.trans h2
  clear h2
  obtain ⟨b0, b1, b2, b3, b4, b5⟩ := box6 h1
  go_wp2_with fail
  try clear b0 b1 b2 b3 b4 b5
  refine (conf_Pages exC 0 0 3 0 (by decide) (HC.out.ext (h0.trans h1))).mono ?_
  rintro e w2 ⟨rfl, h2⟩
  replace h1 := h1.trans h2
  clear h2
  obtain ⟨b0, b1, b2, b3, b4, b5⟩ := box6 h1
  go_wp2_with fail
  try clear b0 b1 b2 b3 b4 b5
  refine (conf_Region exC 0 48 0 (by decide) (HC.out.ext (h0.trans h1))).mono ?_
  rintro e w3 ⟨rfl, h2⟩
  replace h1 := h1.trans h2
  clear h2
  obtain ⟨b0, b1, b2, b3, b4, b5⟩ := box6 h1
  go_wp2_with fail
  try clear b0 b1 b2 b3 b4 b5
  refine (conf_Base exC 1 48 0 (by decide) (HC.out.ext (h0.trans h1))).mono ?_
  rintro e w4 ⟨rfl, h2⟩
  replace h1 := h1.trans h2
  clear h2
  obtain ⟨b0, b1, b2, b3, b4, b5⟩ := box6 h1
  go_wp2_with fail
  try clear b0 b1 b2 b3 b4 b5
  refine (conf_Total exC 64 0 (by decide) (HC.out.ext (h0.trans h1))).mono ?_
  rintro e w5 ⟨rfl, h2⟩
  replace h1 := h1.trans h2
  clear h2
  obtain ⟨b0, b1, b2, b3, b4, b5⟩ := box6 h1
  go_wp2_with fail
  try clear b0 b1 b2 b3 b4 b5
  refine (conf_Slots exC 2 0 0 2 (by decide) (HC.out.ext (h0.trans h1))).mono ?_
  rintro e w20 ⟨rfl, h2⟩
  replace h1 := h1.trans h2
  clear h2
  obtain ⟨b0, b1, b2, b3, b4, b5⟩ := box6 h1
  have f1 : w20.frozen? ⟨w0.heap.size, 1, none⟩ = false := by rw [h1.frozen (by simp)]; simp
  have hs : w0.heap.size < w20.heap.size := by have := h1.size; simp at this; omega
  go_wp2_with fail
  have hx3 := (h0.trans h1).setCell (p := ⟨w0.heap.size, 1, none⟩) (Nat.le_refl _) (.int .i64 3)
  have hk := HC.out.ext hx3
  have hk3 : CfgAt _ ca ta 2 2 exC3 := ⟨hk.cl, hk.ts, hk.cm, hk.tm, hk.ccap, hk.tcap, hk.ccm, hk.tcm⟩
  clear hk
  refine (conf_Check' exC3 2 (by decide) hk3).mono ?_
  rintro e w21 ⟨rfl, h2⟩
  clear b0 b1 b2 b3 b4 b5
  go_wp2_with fail
  go_ret
  exact ⟨rfl, hx.trans (hx3.trans h2)⟩

end Go.Proofs.Ytmjgmgaklgcdnaa
