/-
  class.Check, class.Of, class.Round, class.Waste and sort.Search: each function hands back what its plain function computes, and leaves all that there was as it was. The rows must lie in memory as read.
-/
import Derived.Test.YteopbobhphghhaaProg
import Derived.Test.YteopbobhphghhaaClassP
import Derived.Test.YteopbobhphghhaaEnt
import Derived.WalkKit
import Derived.WalkSpells
import Derived.WalkLawsBesides
import Derived.Outline
import Derived.BigQuiet
import Derived.Deep.QuietTactic
namespace Go.Proofs.Yteopbobhphghhaa
open Go.RowKit

set_option maxHeartbeats 1000000 in
theorem class_Check (a : Option Addr) (cap : Nat) (xs : List Int) (w : World) (h : At .i64 w a xs) (hl : xs.length ≤ maxLen) :
    Calls Try.prog 84 #[.slice a xs.length cap] w fun e w' => e = .returned (.int .i64 (ccheck xs)) ∧ w = w' := by
  unfold maxLen at hl
  by_cases h1 : xs.length < 1
  · have e : ccheck xs = 2 := by unfold ccheck; rw [if_pos (.inl h1)]
    have E := Lib.hid e; clear e
    go_enter Try.func84, Try.ntmps84
    go_wp2
    go_ret
    exact ⟨by rw [E.out]; rfl, rfl⟩
  · obtain ⟨b, o, rfl, hc⟩ := h.pos (by omega)
    by_cases h2 : xs.length > 8
    · have e : ccheck xs = 2 := by unfold ccheck; rw [if_pos (.inr (.inl h2))]
      have E := Lib.hid e; clear e
      go_enter Try.func84, Try.ntmps84
      go_wp2
      go_ret
      exact ⟨by rw [E.out]; rfl, rfl⟩
    · have hc0 := hc (xs.length - 1) (by omega)
      by_cases h3 : 64 < nth xs (xs.length - 1)
      · have e : ccheck xs = 2 := by unfold ccheck; rw [if_pos (.inr (.inr h3))]
        have E := Lib.hid e; clear e
        go_enter Try.func84, Try.ntmps84
        go_wp2
        go_ret
        exact ⟨by rw [E.out]; rfl, rfl⟩
      · have e : ccheck xs = ccheckLoop 1 (xs.drop 0) := by unfold ccheck; rw [if_neg (by omega)]; rfl
        have E := Lib.hid e; clear e
        go_enter Try.func84, Try.ntmps84
        go_wp2
        clear hc0
        go_loop [3, 5, 25] (fun last n i => ∃ (k : Nat) (q : Int), k ≤ xs.length ∧ i = .int .i64 k ∧ last = .int .i64 q ∧ ccheck xs = ccheckLoop q (xs.drop k)) (fun _ _ i => xs.length - (intOf i).toNat)
        case atStart => exact ⟨0, 1, Nat.zero_le _, rfl, rfl, E.out⟩
        case round =>
          obtain ⟨k, q, hk, rfl, rfl, hq⟩ := hrel
          have HQ := Lib.hid hq; clear hq
          by_cases hlt : k < xs.length
          · have hck := hc k hlt
            have hd := drop_nth xs k hlt
            have HD := Lib.hid hd; clear hd
            go_wp2
            · go_ret
              exact ⟨by rw [HQ.out, HD.out, ccheckLoop, if_pos (by omega)]; rfl, rfl⟩
            · go_round
              case rel => exact ⟨k + 1, _, by omega, by go_num, rfl, by rw [HQ.out, HD.out, ccheckLoop, if_neg (by omega)]⟩
              case measure => simp [intOf]; omega
          · go_wp2
            go_ret
            exact ⟨by rw [HQ.out, List.drop_of_length_le (by omega)]; rfl, rfl⟩

/-! ### sort.Search: a function value that answers as 'p' says, rising -/
/-- The function value g answers, of each number below n, what p says, wherever memory has gone on from w. -/
def Answers (P : Program) (g : Nat) (cs : Array Value) (n : Nat) (p : Nat → Bool) (w : World) : Prop :=
  ∀ i w', i < n → Ext w w' → Calls P g (#[.int .i64 i] ++ cs) w' fun e w'' => e = .returned (.bool (p i)) ∧ Ext w' w''

set_option maxHeartbeats 1000000 in
theorem sort_Search (g : Nat) (cs : Array Value) (n r : Nat) (p : Nat → Bool) (w : World) (hn : n ≤ 1073741824)
    (hp : Answers Try.prog g cs n p w) (hr : r ≤ n) (h1 : ∀ i, i < r → p i = false) (h2 : ∀ i, r ≤ i → i < n → p i = true) (hk : Enters Try.prog g) :
    Calls Try.prog 92 #[.int .i64 n, .func (.func g) #[] cs] w fun e w' => e = .returned (.int .i64 r) ∧ Ext w w' := by
  unfold Enters at hk
  have HP := Lib.hid hp; clear hp
  have H1 := Lib.hid h1; clear h1
  have H2 := Lib.hid h2; clear h2
  go_enter Try.func92, Try.ntmps92
  go_wp2
  go_loopw [5, 6, 7] (fun i j _ wr => ∃ (x y : Nat), i = .int .i64 x ∧ j = .int .i64 y ∧ x ≤ r ∧ r ≤ y ∧ y ≤ n ∧ Ext w wr) (fun i j _ _ => (intOf j).toNat - (intOf i).toNat)
  case atStart => exact ⟨0, n, rfl, rfl, Nat.zero_le _, hr, Nat.le_refl _, Ext.refl _⟩
  case round =>
    obtain ⟨x, y, rfl, rfl, hx, hy, hyn, hw⟩ := hrel
    by_cases hlt : x < y
    · go_wp2_with fail
      refine (HP.out ((x + y) / 2) _ (by omega) hw).mono ?_
      rintro e w1 ⟨rfl, hw1⟩
      have h3 : x ≤ (x + y) / 2 ∧ (x + y) / 2 < y := by omega
      cases hpm : p ((x + y) / 2)
      · have hm : (x + y) / 2 < r := by
          rcases Nat.lt_or_ge ((x + y) / 2) r with h | h
          · exact h
          · have := H2.out _ h (by omega); rw [hpm] at this; cases this
        go_wp2_with fail
        go_roundw
        case rel => exact ⟨(x + y) / 2 + 1, y, by go_num, rfl, by omega, by omega, by omega, hw.trans hw1⟩
        case measure => simp [intOf]; omega
      · have hm : r ≤ (x + y) / 2 := by
          rcases Nat.lt_or_ge ((x + y) / 2) r with h | h
          · have := H1.out _ h; rw [hpm] at this; cases this
          · exact h
        go_wp2_with fail
        go_roundw
        case rel => exact ⟨x, (x + y) / 2, rfl, by go_num, by omega, by omega, by omega, hw.trans hw1⟩
        case measure => simp [intOf]; omega
    · go_wp2_with fail
      go_ret
      exact ⟨ret_int (by omega), hw⟩

/-! ### class.Of -/

theorem class_Check' {a : Option Addr} {cap : Nat} (xs : List Int) (n : Nat) (p : Int) {w : World} (hn : xs.length = n) (hp : ccheck xs = p) (h : At .i64 w a xs) (hl : xs.length ≤ maxLen) :
    Calls Try.prog 84 #[.slice a n cap] w fun e w' => e = .returned (.int .i64 p) ∧ Ext w w' := by
  have := class_Check a cap xs w h hl; rw [hp, hn] at this; exact this.mono fun _ _ ⟨he, hw⟩ => ⟨he, hw ▸ Ext.refl _⟩

end Go.Proofs.Yteopbobhphghhaa
