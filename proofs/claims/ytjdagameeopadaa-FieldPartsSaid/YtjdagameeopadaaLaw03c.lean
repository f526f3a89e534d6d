/-
  The walk of commonagelaw03.FieldParts.
-/
import Derived.Test.YtjdagameeopadaaLaw03
namespace Go.Proofs.Ytjdagameeopadaa
open Go.RowKit

set_option maxRecDepth 100000 in
set_option maxHeartbeats 4000000 in
theorem law03_FieldParts {a : Option Addr} {ca : Nat} (xs : List Int) (u : Int) (w : World) (h : At .i64 w a xs) (hl : xs.length ≤ maxLen) (hu : 0 ≤ u ∧ u < 18446744073709551616) :
    Calls Try.prog 7 #[.slice a xs.length ca, .int .u64 u] w fun e w' => e = .returned (.bool true) ∧ Ext w w' := by
  have h1 := Ext.refl w
  have hl' := hl
  unfold maxLen at hl'
  have H := Lib.hid h; have HL := Lib.hid hl; have U := Lib.hid hu.2; have HU0 := Lib.hid hu
  have u0 := hu.1
  clear h hu
  by_cases hs : 100 < xs.length
  · go_enter Try.func7, Try.ntmps7
    go_wp2_with fail
    refine (law03_awake _).mono ?_
    rintro e w1 ⟨rfl, h2⟩
    replace h1 := h1.trans h2
    clear h2
    go_wp2_with fail
    go_ret
    exact ⟨rfl, h1⟩
  · have hs1 : decide (100 < (xs.length : Int)) = false := by simp; omega
    obtain ⟨l, s, e2⟩ : ∃ p q, unpackR xs u = (p, q) := ⟨_, _, rfl⟩
    have E2 := Lib.hid e2
    by_cases hs0 : s = 0
    · subst hs0
      obtain ⟨rfl, wk, hfit⟩ := unpackR_len e2
      have WK := Lib.hid wk
      have HFIT := Lib.hid hfit
      have hpos := wk.pos
      clear e2 wk hfit
      have ZE := Lib.hid (zs_end WK.out HFIT.out)
      go_enter Try.func7, Try.ntmps7
      go_wp2_with fail
      refine (field_Unpack xs u (unp xs u xs.length) 0 E2.out (H.out.ext h1) HL.out u0 U.out).mono ?_
      rintro e w3 ⟨la, lc, rfl, hn, h2⟩
      have HN := Lib.hid hn.row
      clear hn
      replace h1 := h1.trans h2
      have H3 := Lib.hid h2
      clear h2
      rw [unp_len]
      go_wp2_with fail
      have lcm := hpos
      go_loopw [7, 8, 9] (fun y z i wr => ∃ k : Nat, k ≤ xs.length ∧ i = .int .i64 k ∧ y = .int .i64 (fr xs k) ∧ z = .int .u64 ((zs xs u k : Nat) : Int) ∧ Ext w wr ∧ Ext w3 wr) (fun _ _ i _ => xs.length - (intOf i).toNat)
      case atStart => exact ⟨0, Nat.zero_le _, rfl, rfl, by unfold zs; rw [Int.toNat_of_nonneg u0], h1, Ext.refl _⟩
      case round =>
        clear h1
        obtain ⟨k, hk, rfl, rfl, rfl, h1, h3⟩ := hrel
        by_cases hlt : k < xs.length
        · obtain ⟨x, o, rfl, hc⟩ := H.out.pos (by omega)
          obtain ⟨y, p', rfl, hc'⟩ := HN.out.pos (by rw [unp_len]; omega)
          have z1 := h1.cell (hc k hlt)
          have z2 := h3.cell (hc' k (by rw [unp_len]; omega))
          rw [unp_nth _ _ _ _ hlt] at z2
          have z64 := of64 (zs_64 WK.out HU0.out.1 HU0.out.2 k hk)
          have zz0 := z64.1; have ZZ := Lib.hid z64.2
          have E3 := Lib.hid (gget_at WK.out k hlt u)
          have E4 := Lib.hid (gset_zs WK.out u k hlt)
          have Z := Lib.hid (show (0 : Int) < 18446744073709551616 by decide)
          have f0 := WK.out.fr0 k hk; have f1 := WK.out.fr0 (k + 1) hlt
          have HU2 := Lib.hid (show fr xs (k + 1) = fr xs k + nth xs k from rfl)
          rw [HU2.out] at f1
          have C1 := Lib.hid (hc k hlt)
          have C2 := Lib.hid (show w3.cell? ⟨y, p' + k, none⟩ = some (.int .u64 (fgetI u (fr xs k) (nth xs k))) by rw [← unp_nth xs u xs.length k hlt]; exact hc' k (by rw [unp_len]; omega))
          clear hc hc' z64
          generalize fgetI u (fr xs k) (nth xs k) = g at *
          generalize fr xs k = v at *
          generalize nth xs k = m at *
          generalize zs xs u k = q at *
          obtain ⟨q', hq'⟩ : ∃ q', zs xs u (k + 1) = q' := ⟨_, rfl⟩
          rw [hq'] at E4
          have HQ' := Lib.hid hq'; clear hq'
          go_wp2_with fail
          refine (field_Get g 0 u0 U.out E3.out).mono ?_
          clear z1 z2
          rintro e w4 ⟨rfl, h2⟩
          replace h1 := h1.trans h2
          replace h3 := h3.trans h2
          clear h2
          have z1 := h1.cell C1.out
          have z2 := h3.cell C2.out
          go_wp2_with fail
          refine (field_Set _ 0 zz0 ZZ.out (Int.le_refl 0) Z.out E4.out).mono ?_
          clear z1 z2
          rintro e w5 ⟨rfl, h2⟩
          replace h1 := h1.trans h2
          replace h3 := h3.trans h2
          clear h2
          have z1 := h1.cell C1.out
          have z2 := h3.cell C2.out
          go_wp2_with fail
          go_roundw
          case rel => exact ⟨k + 1, by omega, by go_num, by rw [HU2.out], by rw [HQ'.out], h1, h3⟩
          case measure => simp [intOf]; omega
        · obtain rfl : k = xs.length := by omega
          rw [ZE.out]
          go_wp2_with fail
          refine (law03_awake _).mono ?_
          rintro e w2 ⟨rfl, h2⟩
          replace h1 := h1.trans h2
          clear h2
          go_wp2_with fail
          go_ret
          exact ⟨rfl, h1⟩
    · have hsb : (s != 0) = true := by simpa using hs0
      obtain rfl := unpackR_bad e2 hs0
      clear hs0 e2
      go_enter Try.func7, Try.ntmps7
      go_wp2_with fail
      refine (field_Unpack xs u [] s E2.out (H.out.ext h1) HL.out u0 U.out).mono ?_
      rintro e w3 ⟨la, lc, rfl, hn, h2⟩
      clear hn
      replace h1 := h1.trans h2
      clear h2
      go_wp2_with fail
      refine (law03_awake _).mono ?_
      rintro e w3 ⟨rfl, h2⟩
      replace h1 := h1.trans h2
      clear h2
      go_wp2_with fail
      go_ret
      exact ⟨rfl, h1⟩

end Go.Proofs.Ytjdagameeopadaa
