/-
  The walk of commonagelaw04.BitsWords.
-/
import Derived.Test.YtfhnjecnamgpkaaDoorLaw04e
namespace Go.Proofs.YtfhnjecnamgpkaaDoor
open Go.RowKit

/-- The first k of the bits, the rest not set. -/
def Upto (bs bk : List Bool) (k : Nat) : Prop := bk.length = bs.length ∧ ∀ j, bnth bk j = (decide (j < k) && bnth bs j)
theorem upto_zero (bs : List Bool) : Upto bs (List.replicate bs.length false) 0 := ⟨by simp, fun j => by rw [bnth_rep0]; simp⟩
theorem upto_all {bs bk : List Bool} (h : Upto bs bk bs.length) : bk = bs :=
  bext h.1 fun i hi => by rw [h.2]; have : i < bs.length := by have := h.1; omega
                          simp [this]
theorem upto_no {bs bk : List Bool} {k : Nat} (h : Upto bs bk k) (hk : bnth bs k = false) : Upto bs bk (k + 1) :=
  ⟨h.1, fun j => by
    rw [h.2]
    by_cases e : j = k
    · subst e; rw [hk]; simp
    · congr 1; simp; omega⟩
theorem upto_yes {bs bk : List Bool} {k : Nat} (h : Upto bs bk k) (hl : k < bs.length) (hk : bnth bs k = true) : Upto bs (bk.set k true) (k + 1) :=
  ⟨by rw [List.length_set]; exact h.1, fun j => by
    rw [bnth_set (by have := h.1; omega)]
    by_cases e : j = k
    · subst e; rw [if_pos rfl, hk]; simp
    · rw [if_neg e, h.2]; congr 1; simp; omega⟩
theorem row_WordsN {b g n : Nat} (bs : List Bool) {w : World} (hn : bs.length = n) (h : RowAt w b g bs) : Calls Tryd.prog 28 #[.pointer (some ⟨b, 0, none⟩)] w fun e w' => ∃ a cap, e = .returned (.slice a ((n + 63) / 64) cap) ∧ At .u64 w' a (wds bs) ∧ Ext w w' :=
  (row_Words bs h).mono fun e w' ⟨a, cap, he, hn', hx⟩ => ⟨a, cap, by rw [he, wds_len, hn]; rfl, hn'.row, hx⟩

set_option maxRecDepth 100000 in
set_option maxHeartbeats 8000000 in
theorem law04_BitsWords {la ma : Option Addr} {lc mc : Nat} (n : Int) (l m : List Int) (w : World) (hT : Tab w) (hn : 0 ≤ n ∧ n ≤ 65535) (h : At .u16 w la l) (hl : l.length ≤ maxLen) (hb : ∀ x ∈ l, 0 ≤ x ∧ x ≤ 65535)
    (h' : At .u16 w ma m) (hl' : m.length ≤ maxLen) (hb' : ∀ x ∈ m, 0 ≤ x ∧ x ≤ 65535) :
    Calls Tryd.prog 8 #[.int .u16 n, .slice la l.length lc, .slice ma m.length mc] w fun e w' => e = .returned (.bool true) ∧ Ext w w' := by
  have HT := Lib.hid hT; have H := Lib.hid h; have HB := Lib.hid hb; have HL := Lib.hid hl; have M := Lib.hid h'; have MB := Lib.hid hb'
  obtain ⟨N, hN⟩ : ∃ N : Nat, n % 301 = N := ⟨(n % 301).toNat, by omega⟩
  have HN := Lib.hid hN
  have n0 := hn.1; have n1 := hn.2
  have hN3 : N ≤ 300 := by omega
  have BL := Lib.hid (madeB_len N l)
  unfold maxLen at hl'
  clear hT h hb hl hN h' hb'
  generalize hbs : madeB N l = bs at *
  have HBS := Lib.hid hbs
  clear hbs
  have WL := Lib.hid (show (wds bs).length = (N + 63) / 64 by rw [wds_len, BL.out]; rfl)
  go_enter Tryd.func8, Tryd.ntmps8
  go_wp2_with fail
  refine (law04_made n l N HN.out n0 H.out HL.out HB.out n1).mono ?_
  rw [HBS.out]
  rintro e w1 ⟨b, g, a, cap, rfl, hr, ha, _, _, _, _, x1⟩
  have R := Lib.hid hr; have QA := Lib.hid ha; have X := Lib.hid x1
  rw [BL.out]
  clear hr x1 ha
  go_wp2_with fail
  refine (row_WordsN bs BL.out R.out).mono ?_
  rintro e w2 ⟨a2, c2, rfl, hw2, x2⟩
  have R2 := Lib.hid (R.out.ext x2); have Q2 := Lib.hid (QA.out.ext x2); have X2 := Lib.hid (X.out.trans x2); have W2 := Lib.hid hw2
  clear hw2 x2 R QA X
  go_wp2_with fail
  go_loopw [10] (fun i wr => ∃ k : Nat, k ≤ 64 * ((N + 63) / 64) ∧ i = .int .i64 k ∧ Hid (Ext w2 wr)) (fun i _ => 64 * ((N + 63) / 64) - (intOf i).toNat)
  case atStart => exact ⟨0, Nat.zero_le _, rfl, Lib.hid (Ext.refl _)⟩
  case round =>
    obtain ⟨k, hk, rfl, HE⟩ := hrel
    by_cases hlt : k < 64 * ((N + 63) / 64)
    · obtain ⟨x, o, rfl, hc⟩ := W2.out.pos (by rw [WL.out]; omega)
      obtain ⟨kd, hkd⟩ : ∃ kd, k / 64 = kd := ⟨_, rfl⟩
      obtain ⟨km, hkm⟩ : ∃ km, k % 64 = km := ⟨_, rfl⟩
      have hk6 : kd < (N + 63) / 64 := by omega
      have hk7 : km < 64 := by omega
      have z := HE.out.cell (hc kd (by rw [WL.out]; exact hk6))
      rw [wds_nth (by rw [BL.out]; exact hk6)] at z
      have G1 := Lib.hid (bget_nat bs k)
      have BT := Lib.hid ((bit_at (i := km) (wd_lt bs kd)).trans (by rw [wd_bit _ _ _ hk7]; congr 1; omega : _ = bnth bs k))
      have t1 : IntKind.i64.wrap ((k : Int) / 64) = (kd : Int) := by rw [IntWalk.i64_in _ (by omega)]; omega
      have t2 : ((k : Int).tmod 64) = (km : Int) := by rw [Int.tmod_eq_emod_of_nonneg (by omega)]; omega
      have t3 : IntKind.u64.wrap (km : Int) = (km : Int) := by rw [IntKind.wrap_u64]; omega
      have hk8 : (kd : Int) < (((N + 63) / 64 : Nat) : Int) := by omega
      have hk9 : ((kd : Int) < ((N : Int) + 63) / 64) := by omega
      have bt := BT.out
      have RE := Lib.hid (R2.out.ext HE.out)
      clear hc hkd hkm
      generalize bnth bs k = v at *
      generalize wd bs kd = wv at *
      go_wp2_with fail
      go_quiet ((go_at_call 17; exact Calls.quiet_of_same (flip (row_Get bs _ (RE.out.ext ((Ext.refl _).drewN _)) G1.out))))
      go_wp2_with fail
      go_roundw
      case rel => exact ⟨k + 1, by omega, by go_num, Lib.hid (HE.out.drewN _)⟩
      case measure => simp [intOf]; omega
    · obtain rfl : k = 64 * ((N + 63) / 64) := by omega
      go_wp2_with fail
      refine (bits_New N (by omega)).mono ?_
      rintro e w3 ⟨b3, g3, rfl, hr3, b3w, g3w, x3⟩
      have O3 := Lib.hid hr3; have XO := Lib.hid (HE.out.trans x3)
      replace g3w := fun hp => Nat.le_trans HE.out.size (g3w hp)
      clear hr3 x3
      go_wp2_with fail
      go_loopw [13] (fun i wr => ∃ (k : Nat) (bk : List Bool), k ≤ m.length ∧ k ≤ 300 ∧ i = .int .i64 k ∧ Hid (bk.length = N) ∧ Hid (RowAt wr b3 g3 bk) ∧ Hid (Ext w2 wr)) (fun i _ => 300 - (intOf i).toNat)
      case atStart => exact ⟨0, List.replicate N false, Nat.zero_le _, Nat.zero_le _, rfl, Lib.hid (by simp), O3, XO⟩
      case round =>
        obtain ⟨k, bk, hk, hk3, rfl, HKL, HR, HX⟩ := hrel
        rcases (show (k < m.length ∧ k < 300) ∨ (k < m.length ∧ k = 300) ∨ k = m.length by omega) with ⟨hlt, h300⟩ | ⟨hlt, rfl⟩ | rfl
        · obtain ⟨x, o, rfl, hc⟩ := M.out.pos (by omega)
          have z1 := HX.out.cell (X2.out.cell (hc k hlt))
          have xb := MB.out _ (nth_mem hlt)
          clear hc
          have x0 := xb.1; have x1 := xb.2
          clear xb
          generalize nth m k = y at *
          go_wp2_with fail
          refine (row_Set_any bk HR.out).mono ?_
          rintro e w3 ⟨q, bk', rfl, hl3, hr3, hc3⟩
          have HR3 := Lib.hid hr3
          have HX3 := Lib.hid (hc3.over HX.out fun k' ⟨hp, he⟩ => by
            rw [he]; exact g3w (by rw [← HKL.out]; exact hp))
          have HL3 := Lib.hid (hl3.trans HKL.out)
          clear hr3 hc3 z1 hl3
          go_wp2_with fail
          go_roundw
          case rel => exact ⟨k + 1, bk', by omega, by omega, by go_num, HL3, HR3, HX3⟩
          case measure => simp [intOf]; omega
        all_goals
          go_wp2_with fail
          refine (row_Clear bk HR.out).mono ?_
          rintro e w4 ⟨⟨v, rfl⟩, hr4, hc4⟩
          have X4 := Lib.hid (hc4.over HX.out fun k' ⟨hp, he⟩ => by
            rw [he]; exact g3w (by rw [← HKL.out]; exact hp))
          have eL : bk.length = bs.length := by rw [HKL.out, BL.out]
          rw [eL] at hr4
          have O4 := Lib.hid hr4
          have U0 := Lib.hid (upto_zero bs)
          clear hr4 hc4 eL HX HR
          go_wp2_with fail
          go_loopw [14] (fun i wr => ∃ (k : Nat) (bk : List Bool), k ≤ N ∧ i = .int .i64 k ∧ Hid (Upto bs bk k) ∧ Hid (RowAt wr b3 g3 bk) ∧ Hid (Ext w2 wr)) (fun i _ => N - (intOf i).toNat)
          case atStart => exact ⟨0, _, Nat.zero_le _, rfl, U0, O4, X4⟩
          case round =>
            obtain ⟨k3, b3k, hk33, rfl, U, HR, HX⟩ := hrel
            by_cases hlt3 : k3 < N
            · obtain ⟨qx, qo, rfl, hq⟩ := Q2.out.pos (by rw [BL.out]; omega)
              have z1 := HX.out.cell (hq k3 (by rw [BL.out]; exact hlt3))
              clear hq
              obtain ⟨xb, hxb⟩ : ∃ xb, bnth bs k3 = xb := ⟨_, rfl⟩
              have HXB := Lib.hid hxb
              rw [hxb] at z1
              clear hxb
              cases xb
              · go_wp2_with fail
                go_roundw
                case rel => exact ⟨k3 + 1, b3k, by omega, by go_num, Lib.hid (upto_no U.out HXB.out), HR, HX⟩
                case measure => simp [intOf]; omega
              · have SS := Lib.hid (bsetR_yes (is := true) (show k3 < b3k.length by rw [U.out.1, BL.out]; exact hlt3))
                go_wp2_with fail
                refine (row_Set b3k _ _ HR.out SS.out).mono ?_
                rintro e w5 ⟨rfl, hr5, hc5⟩
                have HR5 := Lib.hid hr5
                have HX5 := Lib.hid (hc5.over HX.out fun k' ⟨hp, he⟩ => by
                  rw [he]; exact g3w (by rw [← BL.out, ← U.out.1]; exact hp))
                clear hr5 hc5 z1
                go_wp2_with fail
                go_roundw
                case rel => exact ⟨k3 + 1, _, by omega, by go_num, Lib.hid (upto_yes U.out (by rw [BL.out]; exact hlt3) HXB.out), HR5, HX5⟩
                case measure => simp [intOf]; omega
            · obtain rfl : k3 = N := by omega
              have eB := U.out
              rw [← BL.out] at eB
              obtain rfl := upto_all eB
              clear eB U U0 O4 X4
              go_wp2_with fail
              refine (row_WordsN _ BL.out HR.out).mono ?_
              rintro e w6 ⟨a6, c6, rfl, hw6, x6⟩
              have W6 := Lib.hid hw6; have X6 := Lib.hid (HX.out.trans x6)
              have V6 := Lib.hid (W2.out.ext X6.out)
              clear hw6 x6
              go_wp2_with fail
              go_loopw [16] (fun i wr => ∃ k4 : Nat, k4 ≤ (k3 + 63) / 64 ∧ i = .int .i64 k4 ∧ Hid (Ext w6 wr)) (fun i _ => (k3 + 63) / 64 - (intOf i).toNat)
              case atStart => exact ⟨0, Nat.zero_le _, rfl, Lib.hid (Ext.refl _)⟩
              case round =>
                obtain ⟨k4, hk4, rfl, HE⟩ := hrel
                by_cases hlt4 : k4 < (k3 + 63) / 64
                · obtain ⟨vx, vo, rfl, hv⟩ := W6.out.pos (by rw [WL.out]; omega)
                  obtain ⟨wx, wo, rfl, hw⟩ := V6.out.pos (by rw [WL.out]; omega)
                  have z1 := HE.out.cell (hv k4 (by rw [WL.out]; exact hlt4))
                  have z2 := HE.out.cell (hw k4 (by rw [WL.out]; exact hlt4))
                  clear hv hw
                  generalize nth (wds _) k4 = u at *
                  go_wp2_with fail
                  go_quiet (fail)
                  go_wp2_with fail
                  go_roundw
                  case rel => exact ⟨k4 + 1, by omega, by go_num, Lib.hid (HE.out.drewN _)⟩
                  case measure => simp [intOf]; omega
                · obtain rfl : k4 = (k3 + 63) / 64 := by omega
                  go_wp2_with fail
                  refine (law04_awake _ (HT.out.ext ((X2.out.trans X6.out).trans HE.out))).mono ?_
                  rintro e wz ⟨rfl, x⟩
                  go_wp2_with fail
                  go_ret
                  exact ⟨rfl, ((X2.out.trans X6.out).trans HE.out).trans x⟩

end Go.Proofs.YtfhnjecnamgpkaaDoor
