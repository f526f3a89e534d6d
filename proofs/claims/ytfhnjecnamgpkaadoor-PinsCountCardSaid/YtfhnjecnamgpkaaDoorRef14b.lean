/-
  commonageref14: Pin, Unpin.
-/
import Derived.Test.YtfhnjecnamgpkaaDoorRef14
namespace Go.Proofs.YtfhnjecnamgpkaaDoor
open Go.RowKit

/-- What Pin hands back: a row of counts, and a number. -/
def SetInts (a0 : Option Addr) (ms' : List Int) (q : Int) (w : World) (e : Ending) (w' : World) : Prop := ∃ a cap, e = .returned (.tuple #[.slice a ms'.length cap, .int .i64 q]) ∧ At .i64 w' a ms' ∧ (a = a0 ∨ Far w.heap.size a) ∧ Ext w w'

set_option maxHeartbeats 4000000 in
theorem ref14_Pin {a : Option Addr} {cap : Nat} {i : Int} (ms ms' : List Int) (q : Int) {w : World} (h : At .i64 w a ms) (sm : ∀ x ∈ ms, 0 ≤ x ∧ x ≤ 255) (hl : ms.length ≤ 65536) (hr : pturn false ms i = (ms', q)) :
    Calls Tryd.prog 42 #[.slice a ms.length cap, .int .i64 i] w (SetInts a ms' q w) := by
  by_cases hi : 0 ≤ i ∧ i < ms.length
  · obtain ⟨i0, hi0, hz0, hz1, hz2⟩ := info_parts info_i64
    obtain ⟨n, rfl⟩ := Int.eq_ofNat_of_zero_le hi.1
    have hn : n < ms.length := by omega
    unfold pturn at hr
    rw [if_pos hi, Int.toNat_natCast] at hr
    have smn := sm _ (nth_mem hn)
    have s0 := smn.1; have s1 := smn.2
    obtain ⟨b, o, rfl, hc⟩ := h.pos (by omega)
    have z0 := hc n hn
    have H := Lib.hid h
    by_cases ht : nth ms n < 255
    · simp [ht] at hr
      obtain ⟨rfl, rfl⟩ := hr
      have HN := Lib.hid (ncs_news hc)
      have hm : ms.length ≤ maxLen := by unfold maxLen; omega
      have HM := Lib.hid hm
      have EY : Hid (∃ y, nth ms n = y) := Lib.hid ⟨_, rfl⟩
      clear hc h hm hi sm smn
      generalize hy : nth ms n = y at *
      have HY := Lib.hid hy
      clear hy
      go_enter Tryd.func42, Tryd.ntmps42
      go_wp2_with (at_builtin; refine wpList_append_own _ rfl (.tmp 22) (.tmp 23) 63 rfl w.heap.size 3 i0 (.int .i64 0) 1 8 Tryd.underlying63 hi0 hz0 hz1 hz2 rfl (by decide) (.slice (some ⟨w.heap.size, 0, none⟩) 0 0) 0 [] rfl (World.ownsRow_made _ #[] 0 (Nat.le_refl _) (by decide) rfl) ⟨b, o, none⟩ ms.length cap (ncs .i64 ms) rfl (by rw [ncs_len, Nat.mul_one]) (fun j u hj => cell_alloc (HN.out j u hj) _) (ncs_one _ _) (by rw [Nat.zero_add]; exact HM.out) (by rw [Nat.zero_add]; omega) (by simp) ?_; intro v' w1 hown hgrow hnil; rw [Nat.zero_add, List.nil_append] at hown; obtain ⟨a', c', rfl, hnb⟩ := newInts_of hown; have hx := Lib.hid (grown_alloc hgrow (Ext.refl w)); obtain ⟨g', rfl, g1, g2, g3⟩ := hnb.own (by omega); have g4 := g3 n; have HB := Lib.hid hnb.row; have g6 := hnb.cap1; have g7 := hnb.cap2; have g5 := (show w1.cell? ⟨g', n, none⟩ = some (.int .i64 y) by have := HB.out n hn; obtain ⟨x, y', e, hc⟩ := this; cases e; rw [HY.out] at hc; simpa using hc); clear hnb hown hgrow hnil g3)
      go_ret2
      exact ⟨_, c', by rw [List.length_set]; rfl, by have := HB.out.set hn (y + 1); exact this, Or.inr fun x o e => (by cases e; exact g1), hx.out.setCell g1 _⟩
    · simp [ht] at hr
      obtain ⟨rfl, rfl⟩ := hr
      clear hc h hi sm smn
      generalize nth ms n = y at *
      go_enter Tryd.func42, Tryd.ntmps42
      go_wp2_with fail
      go_ret2
      exact ⟨_, cap, rfl, H.out, Or.inl rfl, Ext.refl w⟩
  · have hq : pturn false ms i = (ms, 2) := by unfold pturn; rw [if_neg hi]
    rw [hq] at hr
    cases hr
    by_cases h0 : i < 0
    · clear hi
      go_enter Tryd.func42, Tryd.ntmps42
      go_wp2_with fail
      go_ret2
      exact ⟨a, cap, rfl, h, Or.inl rfl, Ext.refl w⟩
    · have h1 : 0 ≤ i := by omega
      have h2 : (ms.length : Int) ≤ i := by omega
      clear hi
      go_enter Tryd.func42, Tryd.ntmps42
      go_wp2_with fail
      go_ret2
      exact ⟨a, cap, rfl, h, Or.inl rfl, Ext.refl w⟩

set_option maxHeartbeats 4000000 in
theorem ref14_Unpin {a : Option Addr} {cap : Nat} {i : Int} (ms ms' : List Int) (q : Int) {w : World} (h : At .i64 w a ms) (sm : ∀ x ∈ ms, 0 ≤ x ∧ x ≤ 255) (hl : ms.length ≤ 65536) (hr : pturn true ms i = (ms', q)) :
    Calls Tryd.prog 41 #[.slice a ms.length cap, .int .i64 i] w (SetInts a ms' q w) := by
  by_cases hi : 0 ≤ i ∧ i < ms.length
  · obtain ⟨i0, hi0, hz0, hz1, hz2⟩ := info_parts info_i64
    obtain ⟨n, rfl⟩ := Int.eq_ofNat_of_zero_le hi.1
    have hn : n < ms.length := by omega
    unfold pturn at hr
    rw [if_pos hi, Int.toNat_natCast] at hr
    have smn := sm _ (nth_mem hn)
    have s0 := smn.1; have s1 := smn.2
    obtain ⟨b, o, rfl, hc⟩ := h.pos (by omega)
    have z0 := hc n hn
    have H := Lib.hid h
    by_cases ht : 0 < nth ms n
    · simp [ht] at hr
      obtain ⟨rfl, rfl⟩ := hr
      have HN := Lib.hid (ncs_news hc)
      have hm : ms.length ≤ maxLen := by unfold maxLen; omega
      have HM := Lib.hid hm
      have EY : Hid (∃ y, nth ms n = y) := Lib.hid ⟨_, rfl⟩
      clear hc h hm hi sm smn
      generalize hy : nth ms n = y at *
      have HY := Lib.hid hy
      clear hy
      go_enter Tryd.func41, Tryd.ntmps41
      go_wp2_with (at_builtin; refine wpList_append_own _ rfl (.tmp 22) (.tmp 23) 63 rfl w.heap.size 3 i0 (.int .i64 0) 1 8 Tryd.underlying63 hi0 hz0 hz1 hz2 rfl (by decide) (.slice (some ⟨w.heap.size, 0, none⟩) 0 0) 0 [] rfl (World.ownsRow_made _ #[] 0 (Nat.le_refl _) (by decide) rfl) ⟨b, o, none⟩ ms.length cap (ncs .i64 ms) rfl (by rw [ncs_len, Nat.mul_one]) (fun j u hj => cell_alloc (HN.out j u hj) _) (ncs_one _ _) (by rw [Nat.zero_add]; exact HM.out) (by rw [Nat.zero_add]; omega) (by simp) ?_; intro v' w1 hown hgrow hnil; rw [Nat.zero_add, List.nil_append] at hown; obtain ⟨a', c', rfl, hnb⟩ := newInts_of hown; have hx := Lib.hid (grown_alloc hgrow (Ext.refl w)); obtain ⟨g', rfl, g1, g2, g3⟩ := hnb.own (by omega); have g4 := g3 n; have HB := Lib.hid hnb.row; have g6 := hnb.cap1; have g7 := hnb.cap2; have g5 := (show w1.cell? ⟨g', n, none⟩ = some (.int .i64 y) by have := HB.out n hn; obtain ⟨x, y', e, hc⟩ := this; cases e; rw [HY.out] at hc; simpa using hc); clear hnb hown hgrow hnil g3)
      go_ret2
      exact ⟨_, c', by rw [List.length_set]; rfl, by have := HB.out.set hn (y - 1); exact this, Or.inr fun x o e => (by cases e; exact g1), hx.out.setCell g1 _⟩
    · simp [ht] at hr
      obtain ⟨rfl, rfl⟩ := hr
      clear hc h hi sm smn
      generalize nth ms n = y at *
      go_enter Tryd.func41, Tryd.ntmps41
      go_wp2_with fail
      go_ret2
      exact ⟨_, cap, rfl, H.out, Or.inl rfl, Ext.refl w⟩
  · have hq : pturn true ms i = (ms, 2) := by unfold pturn; rw [if_neg hi]
    rw [hq] at hr
    cases hr
    by_cases h0 : i < 0
    · clear hi
      go_enter Tryd.func41, Tryd.ntmps41
      go_wp2_with fail
      go_ret2
      exact ⟨a, cap, rfl, h, Or.inl rfl, Ext.refl w⟩
    · have h1 : 0 ≤ i := by omega
      have h2 : (ms.length : Int) ≤ i := by omega
      clear hi
      go_enter Tryd.func41, Tryd.ntmps41
      go_wp2_with fail
      go_ret2
      exact ⟨a, cap, rfl, h, Or.inl rfl, Ext.refl w⟩

end Go.Proofs.YtfhnjecnamgpkaaDoor
