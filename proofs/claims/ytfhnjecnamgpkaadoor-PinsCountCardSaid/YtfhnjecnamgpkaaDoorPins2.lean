/-
  pins that are: their shape in the memory, and what only reads them.
-/
import Derived.Test.YtfhnjecnamgpkaaDoorPins
namespace Go.Proofs.YtfhnjecnamgpkaaDoor
open Go.RowKit

/-- The bits of the slots that are pinned. -/
def pbs (ms : List Int) : List Bool := ms.map fun x => decide (0 < x)
theorem pbs_len (ms : List Int) : (pbs ms).length = ms.length := by unfold pbs; simp

/-- Pins: their box b, their row's box rb and words' block rg, their counts' block g. -/
structure PinAt (w : World) (b rb rg g : Nat) (ms : List Int) : Prop where
  head : w.cell? ⟨b, 0, none⟩ = some (.pointer (some ⟨rb, 0, none⟩))
  ex : ∃ a cap, w.cell? ⟨b, 1, none⟩ = some (.slice a ms.length cap) ∧ At .u8 w a ms ∧ ms.length ≤ cap ∧ cap ≤ maxLen ∧ (0 < ms.length → a = some ⟨g, 0, none⟩ ∧ ∀ o, w.frozen? ⟨g, o, none⟩ = false)
  row : RowAt w rb rg (pbs ms)
  small : ∀ x ∈ ms, 0 ≤ x ∧ x ≤ 255
  apart : 0 < ms.length → g ≠ b ∧ g ≠ rb ∧ g ≠ rg ∧ rg ≠ b
  two : b ≠ rb
theorem PinAt.ext {w w' : World} {b rb rg g : Nat} {ms : List Int} (h : PinAt w b rb rg g ms) (hx : Ext w w') : PinAt w' b rb rg g ms := by
  obtain ⟨a, cap, h1, h2, h3, h4, h5⟩ := h.ex
  refine ⟨hx.cell h.head, ⟨a, cap, hx.cell h1, h2.ext hx, h3, h4, fun hp => ⟨(h5 hp).1, fun o => ?_⟩⟩, h.row.ext hx, h.small, h.apart, h.two⟩
  obtain ⟨x, o', e, hc⟩ := h2 0 hp
  rw [(h5 hp).1] at e; cases e
  have hl : g < w.heap.size := cell_lt hc
  rw [hx.frozen (p := ⟨g, o, none⟩) hl]; exact (h5 hp).2 o
theorem PinAt.isNone {w : World} {b rb rg g : Nat} {ms : List Int} (h : PinAt w b rb rg g ms) : PNone w (some ⟨b, 0, none⟩) false := .inr ⟨b, some ⟨rb, 0, none⟩, rfl, h.head, rfl⟩
theorem PinAt.most {w : World} {b rb rg g : Nat} {ms : List Int} (h : PinAt w b rb rg g ms) : ms.length ≤ 65536 := by have := h.row.most; rw [pbs_len] at this; exact this

set_option maxHeartbeats 1000000 in
theorem pins_Len {b rb rg g : Nat} (ms : List Int) {w : World} (h : PinAt w b rb rg g ms) : Calls Tryd.prog 32 #[.pointer (some ⟨b, 0, none⟩)] w fun e w' => e = .returned (.int .i64 ms.length) ∧ w = w' := by
  obtain ⟨a, cap, h1, _⟩ := h.ex
  have HN := Lib.hid h.isNone
  clear h
  go_enter Tryd.func32, Tryd.ntmps32
  go_wp2_with fail
  refine (pins_none false HN.out).mono ?_
  rintro e w1000 ⟨rfl, rfl⟩
  go_wp2_with fail
  go_ret
  exact ⟨rfl, rfl⟩

set_option maxHeartbeats 1000000 in
theorem pins_Any {b rb rg g : Nat} (ms : List Int) (c : Nat) {w : World} (h : PinAt w b rb rg g ms) (hc : bcnt (pbs ms) (pbs ms).length = c) : Calls Tryd.prog 37 #[.pointer (some ⟨b, 0, none⟩)] w fun e w' => e = .returned (.int .i64 c) ∧ w = w' := by
  have h0 := h.head
  have HN := Lib.hid h.isNone; have HR := Lib.hid h.row; have HC := Lib.hid hc
  clear h hc
  go_enter Tryd.func37, Tryd.ntmps37
  go_wp2_with fail
  refine (pins_none false HN.out).mono ?_
  rintro e w1000 ⟨rfl, rfl⟩
  go_wp2_with fail
  refine (row_Count (pbs ms) c HR.out HC.out).mono ?_
  rintro e w1000 ⟨rfl, rfl⟩
  go_wp2_with fail
  go_ret
  exact ⟨rfl, rfl⟩

set_option maxHeartbeats 1000000 in
theorem pins_Next {b rb rg g : Nat} {fm : Int} (ms : List Int) (p : Int) (q : Bool) {w : World} (h : PinAt w b rb rg g ms) (hT : Tab w) (hn : IsNext (pbs ms) fm true p q) : Calls Tryd.prog 36 #[.pointer (some ⟨b, 0, none⟩), .int .i64 fm] w fun e w' => e = .returned (.tuple #[.int .i64 p, .bool q]) ∧ Ext w w' := by
  have h0 := h.head
  have HN := Lib.hid h.isNone; have HR := Lib.hid h.row; have HC := Lib.hid hn; have HT := Lib.hid hT
  clear h hn hT
  go_enter Tryd.func36, Tryd.ntmps36
  go_wp2_with fail
  refine (pins_none false HN.out).mono ?_
  rintro e w1000 ⟨rfl, rfl⟩
  go_wp2_with fail
  refine (row_Next (pbs ms) p q HR.out HT.out HC.out).mono ?_
  rintro e w1 ⟨rfl, x⟩
  go_wp2_with fail
  go_ret2
  exact ⟨rfl, x⟩

/-- A slot's count: 0 outside. -/
def pget (ms : List Int) (i : Int) : Int := if 0 ≤ i ∧ i < ms.length then nth ms i.toNat else 0

set_option maxHeartbeats 1000000 in
theorem pins_Count {b rb rg g : Nat} {i : Int} (ms : List Int) (c : Int) {w : World} (h : PinAt w b rb rg g ms) (hc : pget ms i = c) : Calls Tryd.prog 35 #[.pointer (some ⟨b, 0, none⟩), .int .i64 i] w fun e w' => e = .returned (.int .i64 c) ∧ w = w' := by
  have HN := Lib.hid h.isNone
  have hm := h.most
  obtain ⟨a, cap, h1, hA, _⟩ := h.ex
  by_cases h0 : i < 0
  · obtain rfl : c = 0 := by rw [← hc]; unfold pget; rw [if_neg (by omega)]
    clear h hc hA
    go_enter Tryd.func35, Tryd.ntmps35
    go_wp2_with fail
    refine (pins_none false HN.out).mono ?_
    rintro e w1000 ⟨rfl, rfl⟩
    go_wp2_with fail
    go_ret
    exact ⟨rfl, rfl⟩
  · obtain ⟨n, rfl⟩ := Int.eq_ofNat_of_zero_le (show 0 ≤ i by omega)
    by_cases hn : n < ms.length
    · obtain ⟨x, o, rfl, hcs⟩ := hA.pos (by omega)
      have z := hcs n hn
      have sm := h.small _ (nth_mem hn)
      have e : nth ms n = c := by rw [← hc]; unfold pget; rw [if_pos (by omega), Int.toNat_natCast]
      rw [e] at z sm
      have sm0 := sm.1; have sm1 := sm.2
      clear h hc hA hcs e sm h0
      go_enter Tryd.func35, Tryd.ntmps35
      go_wp2_with fail
      refine (pins_none false HN.out).mono ?_
      rintro e w1000 ⟨rfl, rfl⟩
      go_wp2_with fail
      go_ret
      exact ⟨rfl, rfl⟩
    · obtain rfl : c = 0 := by rw [← hc]; unfold pget; rw [if_neg (by omega)]
      clear h hc hA h0
      go_enter Tryd.func35, Tryd.ntmps35
      go_wp2_with fail
      refine (pins_none false HN.out).mono ?_
      rintro e w1000 ⟨rfl, rfl⟩
      go_wp2_with fail
      go_ret
      exact ⟨rfl, rfl⟩

end Go.Proofs.YtfhnjecnamgpkaaDoor
