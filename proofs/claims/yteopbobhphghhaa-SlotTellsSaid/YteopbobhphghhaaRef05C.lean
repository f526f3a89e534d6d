/-
  The document's answer for classes (commonageref05): each function hands back what class's own plain function computes, and leaves all that there was as it was.
-/
import Derived.Test.YteopbobhphghhaaClassC
namespace Go.Proofs.Yteopbobhphghhaa
open Go.RowKit

set_option maxHeartbeats 2000000 in
theorem ref05_Check (a : Option Addr) (cap : Nat) (xs : List Int) (w : World) (h : At .i64 w a xs) (hl : xs.length ≤ maxLen) :
    Calls Try.prog 37 #[.slice a xs.length cap] w fun e w' => e = .returned (.int .i64 (ccheck xs)) ∧ Ext w w' := by
  unfold maxLen at hl
  by_cases h1 : xs.length < 1 ∨ 8 < xs.length
  · have E := Lib.hid (ccheck_len h1)
    rcases h1 with h1 | h1
    · go_enter Try.func37, Try.ntmps37
      go_wp2
      go_ret
      exact ⟨by rw [E.out]; rfl, Ext.refl _⟩
    · go_enter Try.func37, Try.ntmps37
      go_wp2
      go_ret
      exact ⟨by rw [E.out]; rfl, Ext.refl _⟩
  · obtain ⟨b, o, rfl, hc⟩ := h.pos (by omega)
    clear h
    have HC := Lib.hid hc; clear hc
    have hl1 : 1 ≤ xs.length := by omega
    have hl8 : xs.length ≤ 8 := by omega
    clear h1
    go_enter Try.func37, Try.ntmps37
    go_wp2
    go_loopw [3] (fun i wr => ∃ (k : Nat), k ≤ xs.length ∧ i = .int .i64 k ∧ Hid (∀ j, j < k → 2 ≤ nth xs j ∧ nth xs j ≤ 64 ∧ (0 < j → nth xs (j - 1) < nth xs j)) ∧ Ext w wr) (fun i _ => xs.length - (intOf i).toNat)
    case atStart => exact ⟨0, Nat.zero_le _, rfl, fun j hj => absurd hj (Nat.not_lt_zero _), Ext.refl _⟩
    case round =>
      obtain ⟨k, hk, rfl, HR, hw⟩ := hrel
      by_cases hlt : k < xs.length
      · have hck := hw.cell (HC.out k hlt)
        by_cases hb1 : nth xs k < 2
        · have E := Lib.hid (ccheck_bad hlt (.inl hb1))
          go_wp2
          go_quiet (fail)
          go_wp2
          go_ret
          exact ⟨by rw [E.out]; rfl, hw.drewN _⟩
        · have hd1 : decide (nth xs k < 2) = false := by simpa using hb1
          by_cases hb2 : 64 < nth xs k
          · have E := Lib.hid (ccheck_bad hlt (.inr (.inl hb2)))
            go_wp2
            go_quiet (fail)
            go_wp2
            go_ret
            exact ⟨by rw [E.out]; rfl, hw.drewN _⟩
          · have hd2 : decide (64 < nth xs k) = false := by simpa using hb2
            by_cases hb3 : 0 < k
            · have hd3 : decide (0 < (k : Int)) = true := by simpa using hb3
              have hcp := hw.cell (HC.out (k - 1) (by omega))
              by_cases hb4 : nth xs k ≤ nth xs (k - 1)
              · have E := Lib.hid (ccheck_bad hlt (.inr (.inr ⟨hb3, hb4⟩)))
                go_wp2
                go_quiet (fail)
                go_wp2
                go_ret
                exact ⟨by rw [E.out]; rfl, hw.drewN _⟩
              · have hd4 : decide (nth xs k ≤ nth xs (k - 1)) = false := by simpa using hb4
                go_wp2
                go_quiet (fail)
                go_wp2
                go_roundw
                case rel => exact ⟨k + 1, by omega, by go_num, fun j hj => (Nat.lt_succ_iff_lt_or_eq.1 hj).elim (HR.out j) (fun e => by subst e; exact ⟨by omega, by omega, fun _ => by omega⟩), hw.drewN _⟩
                case measure => simp [intOf]; omega
            · have hd3 : decide (0 < (k : Int)) = false := by simp; omega
              go_wp2
              go_quiet (fail)
              go_wp2
              go_roundw
              case rel => exact ⟨k + 1, by omega, by go_num, fun j hj => (Nat.lt_succ_iff_lt_or_eq.1 hj).elim (HR.out j) (fun e => by subst e; exact ⟨by omega, by omega, fun _ => by omega⟩), hw.drewN _⟩
              case measure => simp [intOf]; omega
      · have E := Lib.hid (ccheck_good hl1 hl8 (fun j hj => HR.out j (by omega)))
        go_wp2
        go_ret
        exact ⟨by rw [E.out]; rfl, hw⟩

end Go.Proofs.Yteopbobhphghhaa
