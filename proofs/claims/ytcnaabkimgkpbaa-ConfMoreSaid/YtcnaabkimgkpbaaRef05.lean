/-
  The document's answer for classes (commonageref05): each function hands back what class's own plain function computes, and leaves all that there was as it was.
-/
import Derived.Test.YtcnaabkimgkpbaaClass
namespace Go.Proofs.Ytcnaabkimgkpbaa
open Go.RowKit

set_option maxHeartbeats 2000000 in
theorem ref05_Check (a : Option Addr) (cap : Nat) (xs : List Int) (w : World) (h : At .i64 w a xs) (hl : xs.length ≤ maxLen) :
    Calls Try.prog 19 #[.slice a xs.length cap] w fun e w' => e = .returned (.int .i64 (ccheck xs)) ∧ Ext w w' := by
  unfold maxLen at hl
  by_cases h1 : xs.length < 1 ∨ 8 < xs.length
  · have E := Lib.hid (ccheck_len h1)
    rcases h1 with h1 | h1
    · go_enter Try.func19, Try.ntmps19
      go_wp2
      go_ret
      exact ⟨by rw [E.out]; rfl, Ext.refl _⟩
    · go_enter Try.func19, Try.ntmps19
      go_wp2
      go_ret
      exact ⟨by rw [E.out]; rfl, Ext.refl _⟩
  · obtain ⟨b, o, rfl, hc⟩ := h.pos (by omega)
    clear h
    have HC := Lib.hid hc; clear hc
    have hl1 : 1 ≤ xs.length := by omega
    have hl8 : xs.length ≤ 8 := by omega
    clear h1
    go_enter Try.func19, Try.ntmps19
    go_wp2
    go_loopw [3] (fun i wr => ∃ (k : Nat), k ≤ xs.length ∧ i = .int .i64 k ∧ Hid (∀ j, j < k → 2 ≤ nth xs j ∧ nth xs j ≤ 64 ∧ (0 < j → nth xs (j - 1) < nth xs j)) ∧ Ext w wr) (fun i _ => xs.length - (intOf i).toNat)
    case atStart => exact ⟨0, Nat.zero_le _, rfl, fun j hj => absurd hj (Nat.not_lt_zero _), Ext.refl _⟩
    case round =>
      obtain ⟨k, hk, rfl, HR, hw⟩ := hrel
      by_cases hlt : k < xs.length
      · have hck := hw.cell (HC.out k hlt)
        by_cases hb1 : nth xs k < 2
        · have E := Lib.hid (ccheck_bad hlt (.inl hb1))
          go_wp2
          go_quiet (fail)
          go_wp2
          go_ret
          exact ⟨by rw [E.out]; rfl, hw.drewN _⟩
        · have hd1 : decide (nth xs k < 2) = false := by simpa using hb1
          by_cases hb2 : 64 < nth xs k
          · have E := Lib.hid (ccheck_bad hlt (.inr (.inl hb2)))
            go_wp2
            go_quiet (fail)
            go_wp2
            go_ret
            exact ⟨by rw [E.out]; rfl, hw.drewN _⟩
          · have hd2 : decide (64 < nth xs k) = false := by simpa using hb2
            by_cases hb3 : 0 < k
            · have hd3 : decide (0 < (k : Int)) = true := by simpa using hb3
              have hcp := hw.cell (HC.out (k - 1) (by omega))
              by_cases hb4 : nth xs k ≤ nth xs (k - 1)
              · have E := Lib.hid (ccheck_bad hlt (.inr (.inr ⟨hb3, hb4⟩)))
                go_wp2
                go_quiet (fail)
                go_wp2
                go_ret
                exact ⟨by rw [E.out]; rfl, hw.drewN _⟩
              · have hd4 : decide (nth xs k ≤ nth xs (k - 1)) = false := by simpa using hb4
                go_wp2
                go_quiet (fail)
                go_wp2
                go_roundw
                case rel => exact ⟨k + 1, by omega, by go_num, fun j hj => (Nat.lt_succ_iff_lt_or_eq.1 hj).elim (HR.out j) (fun e => by subst e; exact ⟨by omega, by omega, fun _ => by omega⟩), hw.drewN _⟩
                case measure => simp [intOf]; omega
            · have hd3 : decide (0 < (k : Int)) = false := by simp; omega
              go_wp2
              go_quiet (fail)
              go_wp2
              go_roundw
              case rel => exact ⟨k + 1, by omega, by go_num, fun j hj => (Nat.lt_succ_iff_lt_or_eq.1 hj).elim (HR.out j) (fun e => by subst e; exact ⟨by omega, by omega, fun _ => by omega⟩), hw.drewN _⟩
              case measure => simp [intOf]; omega
      · have E := Lib.hid (ccheck_good hl1 hl8 (fun j hj => HR.out j (by omega)))
        go_wp2
        go_ret
        exact ⟨by rw [E.out]; rfl, hw⟩

set_option maxHeartbeats 2000000 in
theorem ref05_Of (a : Option Addr) (cap : Nat) (xs : List Int) (words : Int) (w : World) (h : At .i64 w a xs) (hl : xs.length ≤ maxLen) :
    Calls Try.prog 13 #[.slice a xs.length cap, .int .i64 words] w fun e w' => e = .returned (.tuple #[.int .i64 (cof xs words).1, .int .i64 (cof xs words).2]) ∧ Ext w w' := by
  have CC := Lib.hid (ref05_Check a cap xs w h hl)
  by_cases h0 : ccheck xs = 0
  · have h8 := (ccheck_ok h0).most
    have h1 := (ccheck_ok h0).pos
    obtain ⟨b, o, rfl, hc⟩ := h.pos (by omega)
    rw [h0] at CC
    have H0 := Lib.hid h0; clear h0 h
    have HC := Lib.hid hc; clear hc
    go_enter Try.func13, Try.ntmps13
    go_wp2_with fail
    refine CC.out.mono ?_
    rintro e w1 ⟨rfl, hw1⟩
    go_wp2_with fail
    go_loopw [6] (fun i wr => ∃ (k : Nat), k ≤ xs.length ∧ i = .int .i64 k ∧ Hid (∀ j, j < k → nth xs j < words) ∧ Ext w wr) (fun i _ => xs.length - (intOf i).toNat)
    case atStart => exact ⟨0, Nat.zero_le _, rfl, fun j hj => absurd hj (Nat.not_lt_zero _), hw1⟩
    case round =>
      obtain ⟨k, hk, rfl, HR, hw⟩ := hrel
      by_cases hlt : k < xs.length
      · have hck := hw.cell (HC.out k hlt)
        by_cases hw0 : words < 1
        · have E := Lib.hid (cof_size H0.out (w := words) (.inr hw0))
          go_wp2
          go_ret2
          exact ⟨by rw [E.out]; rfl, hw⟩
        · by_cases hle : words ≤ nth xs k
          · have hb := below_uniq hk HR.out (fun _ => hle)
            have E := Lib.hid (cof_yes H0.out (w := words) (by rw [← hb]; omega))
            rw [← hb] at E
            clear hb
            go_wp2
            go_ret2
            exact ⟨by rw [E.out]; rfl, hw⟩
          · go_wp2
            go_roundw
            case rel => exact ⟨k + 1, by omega, by go_num, fun j hj => (Nat.lt_succ_iff_lt_or_eq.1 hj).elim (HR.out j) (fun e => by subst e; omega), hw⟩
            case measure => simp [intOf]; omega
      · have E := Lib.hid (cof_size H0.out (w := words) (.inl (below_uniq hk HR.out (fun h => absurd h hlt) ▸ (by omega))))
        go_wp2
        go_ret2
        exact ⟨by rw [E.out]; rfl, hw⟩
  · have E := Lib.hid (cof_no (w := words) h0)
    have h2 : ccheck xs = 2 := (ccheck_01 xs).resolve_left h0
    rw [h2] at E CC
    clear h0 h2
    go_enter Try.func13, Try.ntmps13
    go_wp2_with fail
    refine CC.out.mono ?_
    rintro e w1 ⟨rfl, hw1⟩
    go_wp2_with fail
    go_ret2
    exact ⟨by rw [E.out]; rfl, hw1⟩

set_option maxHeartbeats 1000000 in
theorem ref05_Round (a : Option Addr) (cap : Nat) (xs : List Int) (words : Int) (w : World) (h : At .i64 w a xs) (hl : xs.length ≤ maxLen) :
    Calls Try.prog 15 #[.slice a xs.length cap, .int .i64 words] w fun e w' => e = .returned (.tuple #[.int .i64 (cround xs words).1, .int .i64 (cround xs words).2]) ∧ Ext w w' := by
  have CC := Lib.hid (ref05_Of a cap xs words w h hl)
  by_cases h0 : (cof xs words).2 = 0
  · obtain ⟨h1, h2, h3, _⟩ := cof_lt h0
    have E := Lib.hid (show cround xs words = (nth xs (below xs words), 0) by unfold cround; rw [if_neg (by omega), h1]; rfl)
    have h8 := (ccheck_ok h3).most
    rw [h1] at CC
    obtain ⟨b, o, rfl, hc⟩ := h.pos (by omega)
    have hcr := hc _ h2
    clear hc h h1 h3 h0
    generalize below xs words = r at *
    go_enter Try.func15, Try.ntmps15
    go_wp2_with fail
    refine CC.out.mono ?_
    rintro e w1 ⟨rfl, hw1⟩
    have hcs := hw1.cell hcr
    go_wp2_with fail
    go_ret2
    exact ⟨by rw [E.out]; rfl, hw1⟩
  · have E := Lib.hid (show cround xs words = (0, (cof xs words).2) by unfold cround; rw [if_pos h0])
    have hne : ((cof xs words).2 != 0) = true := by simpa using h0
    generalize (cof xs words).2 = q at *
    clear h0 h
    go_enter Try.func15, Try.ntmps15
    go_wp2_with fail
    refine CC.out.mono ?_
    rintro e w1 ⟨rfl, hw1⟩
    go_wp2_with fail
    go_ret2
    exact ⟨by rw [E.out]; rfl, hw1⟩

set_option maxHeartbeats 1000000 in
theorem ref05_Waste (a : Option Addr) (cap : Nat) (xs : List Int) (words : Int) (w : World) (h : At .i64 w a xs) (hl : xs.length ≤ maxLen) :
    Calls Try.prog 17 #[.slice a xs.length cap, .int .i64 words] w fun e w' => e = .returned (.tuple #[.int .i64 (cwaste xs words).1, .int .i64 (cwaste xs words).2]) ∧ Ext w w' := by
  have CC := Lib.hid (ref05_Round a cap xs words w h hl)
  by_cases h0 : (cround xs words).2 = 0
  · obtain ⟨h1, h2, h3, h4⟩ := cround_ok h0
    have E := Lib.hid (show cwaste xs words = (nth xs (below xs words) - words, 0) by unfold cwaste; rw [if_neg (by omega), h1])
    have h8 := (ccheck_ok h3).top _ h2
    have h9 := (ccheck_ok h3).least _ h2
    have h10 := below_at xs words h2
    rw [h1] at CC
    clear h h1 h2 h3 h0
    generalize nth xs (below xs words) = r at *
    go_enter Try.func17, Try.ntmps17
    go_wp2_with fail
    refine CC.out.mono ?_
    rintro e w1 ⟨rfl, hw1⟩
    go_wp2_with fail
    go_ret2
    exact ⟨by rw [E.out]; rfl, hw1⟩
  · have E := Lib.hid (show cwaste xs words = (0, (cround xs words).2) by unfold cwaste; rw [if_pos h0])
    have hne : ((cround xs words).2 != 0) = true := by simpa using h0
    generalize (cround xs words).2 = q at *
    clear h0 h
    go_enter Try.func17, Try.ntmps17
    go_wp2_with fail
    refine CC.out.mono ?_
    rintro e w1 ⟨rfl, hw1⟩
    go_wp2_with fail
    go_ret2
    exact ⟨by rw [E.out]; rfl, hw1⟩

end Go.Proofs.Ytcnaabkimgkpbaa
