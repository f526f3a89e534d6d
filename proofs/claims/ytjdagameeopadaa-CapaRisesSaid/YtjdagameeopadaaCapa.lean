/-
  capa.widths, fit, Put, Get, Next, Elder: each function hands back what its plain function computes, and leaves all that there was as it was.
-/
import Derived.Test.YtjdagameeopadaaField4
import Derived.Test.YtjdagameeopadaaCapaP
import Derived.Deep.RegionHeld3
namespace Go.Proofs.Ytjdagameeopadaa
open Go.RowKit

def IsHws (w : World) (e : Ending) (w' : World) : Prop := ∃ a, e = .returned (.slice a 3 3) ∧ At .i64 w' a hws ∧ Ext w w'

theorem capa_widths (w : World) : Calls Try.prog 44 #[] w (IsHws w) := by
  go_enter Try.func44, Try.ntmps44
  go_wp2_with fail
  go_ret
  exact ⟨_, rfl, At.newb .i64 w hws _ _ rfl, (Ext.refl w).alloc _⟩

set_option maxHeartbeats 1000000 in
theorem capa_fit {a : Option Addr} {cap : Nat} (t i : Int) (b : Bool) {w : World} (h : At .i64 w a [t, 8, i, 24]) (hb : decide ((0 ≤ t ∧ t < 256) ∧ 0 ≤ i ∧ i < 16777216) = b) :
    Calls Try.prog 43 #[.slice a 4 cap] w fun e w' => e = .returned (.bool b) ∧ Ext w w' := by
  obtain ⟨x, o, rfl, hc⟩ := h.pos (by simp)
  have c0 := hc 0 (by simp); have c1 := hc 1 (by simp); have c2 := hc 2 (by simp); have c3 := hc 3 (by simp)
  rw [Nat.add_zero] at c0
  replace c0 : w.cell? ⟨x, o, none⟩ = some (.int .i64 t) := c0
  replace c1 : w.cell? ⟨x, o + 1, none⟩ = some (.int .i64 8) := c1
  replace c2 : w.cell? ⟨x, o + 2, none⟩ = some (.int .i64 i) := c2
  replace c3 : w.cell? ⟨x, o + 3, none⟩ = some (.int .i64 24) := c3
  have HB := Lib.hid hb
  clear h hc hb
  have C0 := Lib.hid c0; have C1 := Lib.hid c1; have C2 := Lib.hid c2; have C3 := Lib.hid c3
  clear c0 c1 c2 c3
  go_enter Try.func43, Try.ntmps43
  go_wp2_with fail
  go_loopw [3] (fun k wr => ((k = .int .i64 0) ∨ (k = .int .i64 2 ∧ Hid (0 ≤ t ∧ t < 256)) ∨ (k = .int .i64 4 ∧ Hid (0 ≤ t ∧ t < 256) ∧ Hid (0 ≤ i ∧ i < 16777216))) ∧ Ext w wr) (fun k _ => 6 - (intOf k).toNat)
  case atStart => exact ⟨.inl rfl, Ext.refl w⟩
  case round =>
    obtain ⟨rfl | ⟨rfl, HT⟩ | ⟨rfl, HT, HI⟩, hx⟩ := hrel
    · have c0 := hx.cell C0.out; have c1 := hx.cell C1.out
      by_cases ht : t < 0
      · have hbb := Lib.hid (show false = b by rw [← HB.out, decide_eq_false]; omega)
        go_wp2_with fail
        go_quiet (fail)
        go_wp2_with fail
        go_ret
        exact ⟨ret_bool hbb.out, hx.drewN _⟩
      · have ht0 : decide (t < 0) = false := by simpa using ht
        have ht00 : 0 ≤ t := by omega
        by_cases h256 : t < 256
        · have ht1 : (t / 256 != 0) = false := by simp; omega
          go_wp2_with fail
          go_quiet (fail)
          go_wp2_with fail
          go_roundw
          case rel => exact ⟨.inr (.inl ⟨rfl, ht00, h256⟩), hx.drewN _⟩
          case measure => simp [intOf]
        · have hbb := Lib.hid (show false = b by rw [← HB.out, decide_eq_false]; omega)
          have ht1 : (t / 256 != 0) = true := by simp; omega
          go_wp2_with fail
          go_quiet (fail)
          go_wp2_with fail
          go_ret
          exact ⟨ret_bool hbb.out, hx.drewN _⟩
    · have c2 := hx.cell C2.out; have c3 := hx.cell C3.out
      by_cases hi : i < 0
      · have hbb := Lib.hid (show false = b by rw [← HB.out, decide_eq_false]; omega)
        go_wp2_with fail
        go_quiet (fail)
        go_wp2_with fail
        go_ret
        exact ⟨ret_bool hbb.out, hx.drewN _⟩
      · have hi0 : decide (i < 0) = false := by simpa using hi
        have hi00 : 0 ≤ i := by omega
        by_cases hbig : i < 16777216
        · have hi1 : (i / 16777216 != 0) = false := by simp; omega
          go_wp2_with fail
          go_quiet (fail)
          go_wp2_with fail
          go_roundw
          case rel => exact ⟨.inr (.inr ⟨rfl, HT, hi00, hbig⟩), hx.drewN _⟩
          case measure => simp [intOf]
        · have hbb := Lib.hid (show false = b by rw [← HB.out, decide_eq_false]; omega)
          have hi1 : (i / 16777216 != 0) = true := by simp; omega
          go_wp2_with fail
          go_quiet (fail)
          go_wp2_with fail
          go_ret
          exact ⟨ret_bool hbb.out, hx.drewN _⟩
    · have hbb : true = b := by rw [← HB.out, decide_eq_true]; exact ⟨HT, HI⟩
      go_wp2_with fail
      go_ret
      exact ⟨ret_bool hbb, hx⟩

end Go.Proofs.Ytjdagameeopadaa
