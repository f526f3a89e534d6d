/-
  class.Check, class.Of, class.Round, class.Waste and sort.Search: each function hands back what its plain function computes, and leaves all that there was as it was. The rows must lie in memory as read.
-/
import Derived.Test.YtcnaabkimgkpbaaProg
import Derived.Test.YtcnaabkimgkpbaaClassP
import Derived.Test.YtcnaabkimgkpbaaEnt
import Derived.WalkKit
import Derived.WalkSpells
import Derived.WalkLawsBesides
import Derived.Outline
import Derived.BigQuiet
import Derived.Deep.QuietTactic
namespace Go.Proofs.Ytcnaabkimgkpbaa
open Go.RowKit

set_option maxHeartbeats 1000000 in
theorem class_Check (a : Option Addr) (cap : Nat) (xs : List Int) (w : World) (h : At .i64 w a xs) (hl : xs.length ≤ maxLen) :
    Calls Try.prog 18 #[.slice a xs.length cap] w fun e w' => e = .returned (.int .i64 (ccheck xs)) ∧ w = w' := by
  unfold maxLen at hl
  by_cases h1 : xs.length < 1
  · have e : ccheck xs = 2 := by unfold ccheck; rw [if_pos (.inl h1)]
    have E := Lib.hid e; clear e
    go_enter Try.func18, Try.ntmps18
    go_wp2
    go_ret
    exact ⟨by rw [E.out]; rfl, rfl⟩
  · obtain ⟨b, o, rfl, hc⟩ := h.pos (by omega)
    by_cases h2 : xs.length > 8
    · have e : ccheck xs = 2 := by unfold ccheck; rw [if_pos (.inr (.inl h2))]
      have E := Lib.hid e; clear e
      go_enter Try.func18, Try.ntmps18
      go_wp2
      go_ret
      exact ⟨by rw [E.out]; rfl, rfl⟩
    · have hc0 := hc (xs.length - 1) (by omega)
      by_cases h3 : 64 < nth xs (xs.length - 1)
      · have e : ccheck xs = 2 := by unfold ccheck; rw [if_pos (.inr (.inr h3))]
        have E := Lib.hid e; clear e
        go_enter Try.func18, Try.ntmps18
        go_wp2
        go_ret
        exact ⟨by rw [E.out]; rfl, rfl⟩
      · have e : ccheck xs = ccheckLoop 1 (xs.drop 0) := by unfold ccheck; rw [if_neg (by omega)]; rfl
        have E := Lib.hid e; clear e
        go_enter Try.func18, Try.ntmps18
        go_wp2
        clear hc0
        go_loop [3, 5, 25] (fun last n i => ∃ (k : Nat) (q : Int), k ≤ xs.length ∧ i = .int .i64 k ∧ last = .int .i64 q ∧ ccheck xs = ccheckLoop q (xs.drop k)) (fun _ _ i => xs.length - (intOf i).toNat)
        case atStart => exact ⟨0, 1, Nat.zero_le _, rfl, rfl, E.out⟩
        case round =>
          obtain ⟨k, q, hk, rfl, rfl, hq⟩ := hrel
          have HQ := Lib.hid hq; clear hq
          by_cases hlt : k < xs.length
          · have hck := hc k hlt
            have hd := drop_nth xs k hlt
            have HD := Lib.hid hd; clear hd
            go_wp2
            · go_ret
              exact ⟨by rw [HQ.out, HD.out, ccheckLoop, if_pos (by omega)]; rfl, rfl⟩
            · go_round
              case rel => exact ⟨k + 1, _, by omega, by go_num, rfl, by rw [HQ.out, HD.out, ccheckLoop, if_neg (by omega)]⟩
              case measure => simp [intOf]; omega
          · go_wp2
            go_ret
            exact ⟨by rw [HQ.out, List.drop_of_length_le (by omega)]; rfl, rfl⟩

/-! ### sort.Search: a function value that answers as 'p' says, rising -/
/-- The function value g answers, of each number below n, what p says, wherever memory has gone on from w. -/
def Answers (P : Program) (g : Nat) (cs : Array Value) (n : Nat) (p : Nat → Bool) (w : World) : Prop :=
  ∀ i w', i < n → Ext w w' → Calls P g (#[.int .i64 i] ++ cs) w' fun e w'' => e = .returned (.bool (p i)) ∧ Ext w' w''

set_option maxHeartbeats 1000000 in
theorem sort_Search (g : Nat) (cs : Array Value) (n r : Nat) (p : Nat → Bool) (w : World) (hn : n ≤ 1073741824)
    (hp : Answers Try.prog g cs n p w) (hr : r ≤ n) (h1 : ∀ i, i < r → p i = false) (h2 : ∀ i, r ≤ i → i < n → p i = true) (hk : Enters Try.prog g) :
    Calls Try.prog 36 #[.int .i64 n, .func (.func g) #[] cs] w fun e w' => e = .returned (.int .i64 r) ∧ Ext w w' := by
  unfold Enters at hk
  have HP := Lib.hid hp; clear hp
  have H1 := Lib.hid h1; clear h1
  have H2 := Lib.hid h2; clear h2
  go_enter Try.func36, Try.ntmps36
  go_wp2
  go_loopw [5, 6, 7] (fun i j _ wr => ∃ (x y : Nat), i = .int .i64 x ∧ j = .int .i64 y ∧ x ≤ r ∧ r ≤ y ∧ y ≤ n ∧ Ext w wr) (fun i j _ _ => (intOf j).toNat - (intOf i).toNat)
  case atStart => exact ⟨0, n, rfl, rfl, Nat.zero_le _, hr, Nat.le_refl _, Ext.refl _⟩
  case round =>
    obtain ⟨x, y, rfl, rfl, hx, hy, hyn, hw⟩ := hrel
    by_cases hlt : x < y
    · go_wp2_with fail
      refine (HP.out ((x + y) / 2) _ (by omega) hw).mono ?_
      rintro e w1 ⟨rfl, hw1⟩
      have h3 : x ≤ (x + y) / 2 ∧ (x + y) / 2 < y := by omega
      cases hpm : p ((x + y) / 2)
      · have hm : (x + y) / 2 < r := by
          rcases Nat.lt_or_ge ((x + y) / 2) r with h | h
          · exact h
          · have := H2.out _ h (by omega); rw [hpm] at this; cases this
        go_wp2_with fail
        go_roundw
        case rel => exact ⟨(x + y) / 2 + 1, y, by go_num, rfl, by omega, by omega, by omega, hw.trans hw1⟩
        case measure => simp [intOf]; omega
      · have hm : r ≤ (x + y) / 2 := by
          rcases Nat.lt_or_ge ((x + y) / 2) r with h | h
          · have := H1.out _ h; rw [hpm] at this; cases this
          · exact h
        go_wp2_with fail
        go_roundw
        case rel => exact ⟨x, (x + y) / 2, rfl, by go_num, by omega, by omega, by omega, hw.trans hw1⟩
        case measure => simp [intOf]; omega
    · go_wp2_with fail
      go_ret
      exact ⟨ret_int (by omega), hw⟩

/-! ### class.Of -/
theorem enters_Of1 : Enters Try.prog 37 := Enters.mk Try.func37 (by kernel_rfl) rfl

set_option maxHeartbeats 1000000 in
theorem class_Of1 (i : Nat) (pl pw : Addr) (a : Option Addr) (cap : Nat) (xs : List Int) (words : Int) (w : World)
    (hpl : w.cell? pl = some (.slice a xs.length cap)) (hpw : w.cell? pw = some (.int .i64 words)) (h : At .i64 w a xs) (hl : xs.length ≤ maxLen) (hi : i < xs.length) :
    Calls Try.prog 37 #[.int .i64 i, .pointer (some pl), .pointer (some pw)] w fun e w' => e = .returned (.bool (decide (words ≤ nth xs i))) ∧ Ext w w' := by
  unfold maxLen at hl
  obtain ⟨b, o, rfl, hc⟩ := h.pos (by omega)
  have hci := hc i hi
  clear hc h
  go_enter Try.func37, Try.ntmps37
  go_wp2
  go_quiet (fail)
  go_wp2
  go_ret
  exact ⟨rfl, Ext.drewN (Ext.refl w) _⟩

theorem below_small (xs : List Int) (w : Int) (r : Nat) (h : r = below xs w) : r ≤ xs.length := h ▸ below_le xs w

theorem cof_no {xs : List Int} {w : Int} (h : ccheck xs ≠ 0) : cof xs w = (0, ccheck xs) := by unfold cof; rw [if_pos h]
theorem cof_size {xs : List Int} {w : Int} (h : ccheck xs = 0) (h1 : below xs w = xs.length ∨ w < 1) : cof xs w = (0, 50) := by
  unfold cof; rw [if_neg (by omega), if_pos h1]
theorem cof_yes {xs : List Int} {w : Int} (h : ccheck xs = 0) (h1 : ¬ (below xs w = xs.length ∨ w < 1)) : cof xs w = ((below xs w : Int), 0) := by
  unfold cof; rw [if_neg (by omega), if_neg h1]

set_option maxHeartbeats 1000000 in
theorem class_Of (a : Option Addr) (cap : Nat) (xs : List Int) (words : Int) (w : World) (h : At .i64 w a xs) (hl : xs.length ≤ maxLen) :
    Calls Try.prog 12 #[.slice a xs.length cap, .int .i64 words] w fun e w' => e = .returned (.tuple #[.int .i64 (cof xs words).1, .int .i64 (cof xs words).2]) ∧ Ext w w' := by
  have hx1 : Ext w ((w.alloc (.cells #[.slice a xs.length cap] 22)).alloc (.cells #[.int .i64 words] 3)) := ((Ext.refl w).alloc _).alloc _
  have CC := Lib.hid (class_Check a cap xs _ (h.ext hx1) hl)
  by_cases h0 : ccheck xs = 0
  · have hb := below_le xs words
    have hok := ccheck_ok h0
    have h8 := hok.most
    rw [h0] at CC
    have hans : Answers Try.prog 37 #[.pointer (some ⟨w.heap.size, 0, none⟩), .pointer (some ⟨w.heap.size + 1, 0, none⟩)] xs.length (fun i => decide (words ≤ nth xs i))
        ((w.alloc (.cells #[.slice a xs.length cap] 22)).alloc (.cells #[.int .i64 words] 3)) := by
      intro i w' hi hw'
      exact class_Of1 i _ _ a cap xs words w' (hw'.cell (cell_alloc (cell_new1 _ _ _) _)) (hw'.cell (by simp)) (h.ext (hx1.trans hw')) hl hi
    have SS := Lib.hid (sort_Search _ _ xs.length (below xs words) _ _ (by omega) hans hb
      (fun i hi => by have := below_lt xs words i hi; simp; omega)
      (fun i h1 h2 => by
        have h3 := below_at xs words (by omega)
        rcases Nat.lt_or_ge (below xs words) i with h4 | h4
        · have := hok.inc _ i h4 h2; simp; omega
        · obtain rfl : i = below xs words := by omega
          simp; exact h3) enters_Of1)
    clear hans hok
    generalize hr : below xs words = r at *
    have HR := Lib.hid hr; clear hr
    have H0 := Lib.hid h0; clear h0
    go_enter Try.func12, Try.ntmps12
    go_wp2_with fail
    refine CC.out.mono ?_
    rintro e w1 ⟨rfl, rfl⟩
    go_wp2_with fail
    refine SS.out.mono ?_
    rintro e w1 ⟨rfl, hw1⟩
    have hc1 := hw1.cell (cell_alloc (cell_new1 w (.slice a xs.length cap) 22) (.cells #[.int .i64 words] 3))
    have hc2 : w1.cell? ⟨w.heap.size + 1, 0, none⟩ = some (.int .i64 words) := hw1.cell (by simp)
    go_wp2_with fail
    · go_ret2
      exact ⟨by rw [cof_size H0.out (by rw [HR.out]; grind)]; rfl, hx1.trans hw1⟩
    · go_ret2
      exact ⟨by rw [cof_size H0.out (by rw [HR.out]; grind)]; rfl, hx1.trans hw1⟩
    · go_ret2
      exact ⟨by rw [cof_yes H0.out (by rw [HR.out]; grind), HR.out]; rfl, hx1.trans hw1⟩
  · have E := Lib.hid (cof_no (w := words) h0)
    have hne : (ccheck xs != 0) = true := by simpa using h0
    clear h0
    go_enter Try.func12, Try.ntmps12
    go_wp2_with fail
    refine CC.out.mono ?_
    rintro e w1 ⟨rfl, rfl⟩
    go_wp2_with fail
    go_ret2
    exact ⟨by rw [E.out]; rfl, hx1⟩

theorem cof_lt {xs : List Int} {w : Int} (h : (cof xs w).2 = 0) : cof xs w = ((below xs w : Int), 0) ∧ below xs w < xs.length ∧ ccheck xs = 0 ∧ 1 ≤ w := by
  unfold cof at *
  split at h
  · exact absurd h ‹_›
  · rename_i h0
    split at h
    · cases h
    · rename_i h1
      have := below_le xs w
      rw [if_neg h0, if_neg h1]
      exact ⟨rfl, by omega, by omega, by omega⟩

set_option maxHeartbeats 1000000 in
theorem class_Round (a : Option Addr) (cap : Nat) (xs : List Int) (words : Int) (w : World) (h : At .i64 w a xs) (hl : xs.length ≤ maxLen) :
    Calls Try.prog 14 #[.slice a xs.length cap, .int .i64 words] w fun e w' => e = .returned (.tuple #[.int .i64 (cround xs words).1, .int .i64 (cround xs words).2]) ∧ Ext w w' := by
  have CC := Lib.hid (class_Of a cap xs words w h hl)
  by_cases h0 : (cof xs words).2 = 0
  · obtain ⟨h1, h2, h3, _⟩ := cof_lt h0
    have E := Lib.hid (show cround xs words = (nth xs (below xs words), 0) by unfold cround; rw [if_neg (by omega), h1]; rfl)
    have h8 := (ccheck_ok h3).most
    rw [h1] at CC
    obtain ⟨b, o, rfl, hc⟩ := h.pos (by omega)
    have hcr := hc _ h2
    clear hc h h1 h3 h0
    generalize below xs words = r at *
    go_enter Try.func14, Try.ntmps14
    go_wp2_with fail
    refine CC.out.mono ?_
    rintro e w1 ⟨rfl, hw1⟩
    have hcs := hw1.cell hcr
    go_wp2_with fail
    go_ret2
    exact ⟨by rw [E.out]; rfl, hw1⟩
  · have E := Lib.hid (show cround xs words = (0, (cof xs words).2) by unfold cround; rw [if_pos h0])
    have hne : ((cof xs words).2 != 0) = true := by simpa using h0
    generalize (cof xs words).2 = q at *
    clear h0 h
    go_enter Try.func14, Try.ntmps14
    go_wp2_with fail
    refine CC.out.mono ?_
    rintro e w1 ⟨rfl, hw1⟩
    go_wp2_with fail
    go_ret2
    exact ⟨by rw [E.out]; rfl, hw1⟩

theorem cround_ok {xs : List Int} {w : Int} (h : (cround xs w).2 = 0) : cround xs w = (nth xs (below xs w), 0) ∧ below xs w < xs.length ∧ ccheck xs = 0 ∧ 1 ≤ w := by
  unfold cround at *
  split at h
  · exact absurd h ‹_›
  · rename_i h0
    obtain ⟨h1, h2⟩ := cof_lt (by omega : (cof xs w).2 = 0)
    rw [if_neg h0, h1]; exact ⟨rfl, h2⟩

set_option maxHeartbeats 1000000 in
theorem class_Waste (a : Option Addr) (cap : Nat) (xs : List Int) (words : Int) (w : World) (h : At .i64 w a xs) (hl : xs.length ≤ maxLen) :
    Calls Try.prog 16 #[.slice a xs.length cap, .int .i64 words] w fun e w' => e = .returned (.tuple #[.int .i64 (cwaste xs words).1, .int .i64 (cwaste xs words).2]) ∧ Ext w w' := by
  have CC := Lib.hid (class_Round a cap xs words w h hl)
  by_cases h0 : (cround xs words).2 = 0
  · obtain ⟨h1, h2, h3, h4⟩ := cround_ok h0
    have E := Lib.hid (show cwaste xs words = (nth xs (below xs words) - words, 0) by unfold cwaste; rw [if_neg (by omega), h1])
    have h8 := (ccheck_ok h3).top _ h2
    have h9 := (ccheck_ok h3).least _ h2
    have h10 := below_at xs words h2
    rw [h1] at CC
    clear h h1 h2 h3 h0
    generalize nth xs (below xs words) = r at *
    go_enter Try.func16, Try.ntmps16
    go_wp2_with fail
    refine CC.out.mono ?_
    rintro e w1 ⟨rfl, hw1⟩
    go_wp2_with fail
    go_ret2
    exact ⟨by rw [E.out]; rfl, hw1⟩
  · have E := Lib.hid (show cwaste xs words = (0, (cround xs words).2) by unfold cwaste; rw [if_pos h0])
    have hne : ((cround xs words).2 != 0) = true := by simpa using h0
    generalize (cround xs words).2 = q at *
    clear h0 h
    go_enter Try.func16, Try.ntmps16
    go_wp2_with fail
    refine CC.out.mono ?_
    rintro e w1 ⟨rfl, hw1⟩
    go_wp2_with fail
    go_ret2
    exact ⟨by rw [E.out]; rfl, hw1⟩

/-- The same contracts, the length and the answer by name. -/
theorem class_Of' {a : Option Addr} {cap : Nat} (xs : List Int) (n : Nat) (words p q : Int) {w : World} (hn : xs.length = n) (hpq : cof xs words = (p, q)) (h : At .i64 w a xs) (hl : xs.length ≤ maxLen) :
    Calls Try.prog 12 #[.slice a n cap, .int .i64 words] w fun e w' => e = .returned (.tuple #[.int .i64 p, .int .i64 q]) ∧ Ext w w' := by
  have := class_Of a cap xs words w h hl; rw [hpq, hn] at this; exact this
theorem class_Round' {a : Option Addr} {cap : Nat} (xs : List Int) (n : Nat) (words p q : Int) {w : World} (hn : xs.length = n) (hpq : cround xs words = (p, q)) (h : At .i64 w a xs) (hl : xs.length ≤ maxLen) :
    Calls Try.prog 14 #[.slice a n cap, .int .i64 words] w fun e w' => e = .returned (.tuple #[.int .i64 p, .int .i64 q]) ∧ Ext w w' := by
  have := class_Round a cap xs words w h hl; rw [hpq, hn] at this; exact this
theorem class_Waste' {a : Option Addr} {cap : Nat} (xs : List Int) (n : Nat) (words p q : Int) {w : World} (hn : xs.length = n) (hpq : cwaste xs words = (p, q)) (h : At .i64 w a xs) (hl : xs.length ≤ maxLen) :
    Calls Try.prog 16 #[.slice a n cap, .int .i64 words] w fun e w' => e = .returned (.tuple #[.int .i64 p, .int .i64 q]) ∧ Ext w w' := by
  have := class_Waste a cap xs words w h hl; rw [hpq, hn] at this; exact this
theorem class_Check' {a : Option Addr} {cap : Nat} (xs : List Int) (n : Nat) (p : Int) {w : World} (hn : xs.length = n) (hp : ccheck xs = p) (h : At .i64 w a xs) (hl : xs.length ≤ maxLen) :
    Calls Try.prog 18 #[.slice a n cap] w fun e w' => e = .returned (.int .i64 p) ∧ Ext w w' := by
  have := class_Check a cap xs w h hl; rw [hp, hn] at this; exact this.mono fun _ _ ⟨he, hw⟩ => ⟨he, hw ▸ Ext.refl _⟩

end Go.Proofs.Ytcnaabkimgkpbaa
