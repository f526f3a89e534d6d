/-
  The walk of commonagelaw04.BitsWalk.
-/
import Derived.Test.YtfhnjecnamgpkaaDoorLaw04b
namespace Go.Proofs.YtfhnjecnamgpkaaDoor
open Go.RowKit

/-- How many of the first m bits are of a kind. -/
def kcnt (bs : List Bool) (is : Bool) : Nat → Nat
  | 0 => 0
  | m + 1 => kcnt bs is m + (bnth bs m == is).toNat
theorem kcnt_succ (bs : List Bool) (is : Bool) (m : Nat) : kcnt bs is (m + 1) = kcnt bs is m + (bnth bs m == is).toNat := rfl
theorem kcnt_true (bs : List Bool) : ∀ m, kcnt bs true m = bcnt bs m
  | 0 => rfl
  | m + 1 => by rw [kcnt_succ, bcnt_succ, kcnt_true bs m]; cases bnth bs m <;> rfl
theorem kcnt_false (bs : List Bool) : ∀ m, kcnt bs false m + bcnt bs m = m
  | 0 => rfl
  | m + 1 => by rw [kcnt_succ, bcnt_succ]; have := kcnt_false bs m; cases bnth bs m <;> simp <;> omega
theorem kcnt_le (bs : List Bool) (is : Bool) : ∀ m, kcnt bs is m ≤ m
  | 0 => Nat.le_refl 0
  | m + 1 => by rw [kcnt_succ]; have := kcnt_le bs is m; cases (bnth bs m == is) <;> simp <;> omega
theorem kcnt_flat (bs : List Bool) (is : Bool) (a : Nat) : ∀ n, (∀ j, a ≤ j → j < a + n → bnth bs j = !is) → kcnt bs is (a + n) = kcnt bs is a
  | 0, _ => rfl
  | n + 1, h => by
    rw [← Nat.add_assoc, kcnt_succ, kcnt_flat bs is a n fun j h1 h2 => h j h1 (by omega), h (a + n) (by omega) (by omega)]
    cases is <;> rfl
theorem kcnt_hit {bs : List Bool} {is : Bool} {a i : Nat} (hai : a ≤ i) (h : ∀ j : Nat, (a : Int) ≤ j → j < i → bnth bs j = !is) (hi : bnth bs i = is) : kcnt bs is (i + 1) = kcnt bs is a + 1 := by
  obtain ⟨n, rfl⟩ : ∃ n, i = a + n := ⟨i - a, by omega⟩
  rw [kcnt_succ, kcnt_flat bs is a n fun j h1 h2 => h j (by omega) h2, hi]
  cases is <;> rfl
theorem kcnt_end {bs : List Bool} {is : Bool} {a : Nat} (hal : a ≤ bs.length) (h : ∀ j : Nat, (a : Int) ≤ j → j < bs.length → bnth bs j = !is) : kcnt bs is bs.length = kcnt bs is a := by
  obtain ⟨n, hn⟩ : ∃ n, bs.length = a + n := ⟨bs.length - a, by omega⟩
  rw [hn, kcnt_flat bs is a n fun j h1 h2 => h j (by omega) (by omega)]

set_option maxRecDepth 100000 in
set_option maxHeartbeats 8000000 in
theorem law04_BitsWalk {la : Option Addr} {lc : Nat} (n : Int) (l : List Int) (is : Bool) (w : World) (hT : Tab w) (hn : 0 ≤ n ∧ n ≤ 65535) (h : At .u16 w la l) (hl : l.length ≤ maxLen) (hb : ∀ x ∈ l, 0 ≤ x ∧ x ≤ 65535) :
    Calls Tryd.prog 4 #[.int .u16 n, .slice la l.length lc, .bool is] w fun e w' => e = .returned (.bool true) ∧ Ext w w' := by
  have HT := Lib.hid hT; have H := Lib.hid h; have HB := Lib.hid hb; have HL := Lib.hid hl
  obtain ⟨N, hN⟩ : ∃ N : Nat, n % 301 = N := ⟨(n % 301).toNat, by omega⟩
  have HN := Lib.hid hN
  have n0 := hn.1; have n1 := hn.2
  have hN3 : N ≤ 300 := by omega
  have BL := Lib.hid (madeB_len N l)
  clear hT h hb hl hN
  generalize hbs : madeB N l = bs at *
  have HBS := Lib.hid hbs
  clear hbs
  go_enter Tryd.func4, Tryd.ntmps4
  go_wp2_with fail
  refine (law04_made n l N HN.out n0 H.out HL.out HB.out n1).mono ?_
  rw [HBS.out]
  rintro e w1 ⟨b, g, a, cap, rfl, hr, _, _, _, _, _, x1⟩
  have R := Lib.hid hr; have X := Lib.hid x1
  rw [BL.out]
  clear hr x1
  go_wp2_with fail
  go_loopw [9, 10] (fun nv lv wr => ∃ m : Nat, m ≤ N ∧ nv = .int .i64 ((kcnt bs is m : Nat) : Int) ∧ lv = .int .i64 ((m : Int) - 1) ∧ Hid (Ext w1 wr)) (fun _ lv _ => N + 1 - (intOf lv + 1).toNat)
  case atStart => exact ⟨0, Nat.zero_le _, rfl, rfl, Ext.refl _⟩
  case round =>
    obtain ⟨m, hm, rfl, rfl, HX⟩ := hrel
    have kl := kcnt_le bs is m
    have hmb : m ≤ bs.length := by rw [BL.out]; exact hm
    obtain ⟨p, q, hpq⟩ := next_exists bs m is
    have PQ := Lib.hid hpq
    obtain ⟨c, hc⟩ : ∃ c, kcnt bs is m = c := ⟨_, rfl⟩
    have HC := Lib.hid hc
    rw [hc] at kl ⊢
    have t0 : decide ((c : Int) ≤ 300) = true := by simp; omega
    have t00 : decide (c ≤ 300) = true := by simp; omega
    have t1 : IntKind.i64.wrap ((m : Int) - 1 + 1) = (m : Int) := by rw [IntWalk.i64_in _ (by omega)]; omega
    have t2 : ((m : Int) - 1 + 1) = (m : Int) := by omega
    have RX := Lib.hid (R.out.ext HX.out); have XX := Lib.hid (X.out.trans HX.out)
    clear hc
    rcases hpq with ⟨rfl, i, rfl, h1, h2, h3, h4⟩ | ⟨rfl, rfl, h4⟩
    · have hgi : bget bs i = is := by rw [bget_nat]; exact h3
      have GI := Lib.hid hgi
      have KH := Lib.hid (kcnt_hit (by omega) h4 h3)
      have hiN : i < N := by have := BL.out; omega
      have t3 : decide ((i : Int) ≤ (m : Int) - 1) = false := by simp; omega
      have t4 : decide ((N : Int) ≤ (i : Int)) = false := by simp; omega
      have t5 : decide (N ≤ i) = false := by simp; omega
      have t6 : (is != is) = false := by simp
      clear h2 h3 h4 hgi
      go_wp2_with fail
      refine (row_Next bs _ _ RX.out (HT.out.ext XX.out) PQ.out).mono ?_
      rintro e w2 ⟨rfl, x⟩
      have HX2 := Lib.hid (HX.out.trans x)
      have R2 := Lib.hid (RX.out.ext x)
      clear x
      go_wp2_with fail
      refine (row_Get bs _ R2.out GI.out).mono ?_
      rintro e w3 ⟨rfl, rfl⟩
      go_wp2_with fail
      refine (row_Len bs R2.out).mono ?_
      rw [BL.out]
      rintro e w3 ⟨rfl, rfl⟩
      go_wp2_with fail
      go_roundw
      case rel => exact ⟨i + 1, by omega, by rw [KH.out, HC.out]; go_num, by simp, HX2⟩
      case measure => simp [intOf]; omega
    · have KE := Lib.hid (kcnt_end hmb h4)
      clear h4
      obtain ⟨t, ht⟩ : ∃ t, bcnt bs bs.length = t := ⟨_, rfl⟩
      have HTc := Lib.hid ht
      have tle := bcnt_le bs bs.length
      rw [ht, BL.out] at tle
      have WANT : Hid (if is then (c : Int) = t else (c : Int) = (N : Int) - t) := Lib.hid (by
        have e1 := KE.out
        rw [HC.out] at e1
        cases is
        · have := kcnt_false bs bs.length
          rw [e1, ht, BL.out] at this
          simp; omega
        · rw [kcnt_true, ht] at e1
          simp; omega)
      clear ht
      go_wp2_with fail
      refine (row_Next bs _ _ RX.out (HT.out.ext XX.out) PQ.out).mono ?_
      rintro e w2 ⟨rfl, x⟩
      have X2 := Lib.hid (XX.out.trans x)
      have R2 := Lib.hid (RX.out.ext x)
      clear x
      go_wp2_with fail
      refine (row_Count bs t R2.out HTc.out).mono ?_
      rintro e w3 ⟨rfl, rfl⟩
      cases is
      · have hw : (c : Int) = (N : Int) - t := by simpa using WANT.out
        have t9 : ((c : Int) == (N : Int) - t) = true := by simp only [beq_iff_eq]; omega
        clear hw
        go_wp2_with fail
        refine (row_Len bs R2.out).mono ?_
        rw [BL.out]
        rintro e w3 ⟨rfl, rfl⟩
        go_wp2_with fail
        refine (row_Count bs t R2.out HTc.out).mono ?_
        rintro e w3 ⟨rfl, rfl⟩
        go_wp2_with fail
        refine (law04_awake _ (HT.out.ext X2.out)).mono ?_
        rintro e w5 ⟨rfl, x⟩
        go_wp2_with fail
        go_ret
        exact ⟨rfl, X2.out.trans x⟩
      · have hw : (c : Int) = t := by simpa using WANT.out
        have hw2 : c = t := by omega
        have t9 : ((c : Int) == (t : Int)) = true := by simp only [beq_iff_eq]; omega
        have t10 : (c == t) = true := by simpa using hw2
        clear hw hw2
        go_wp2_with fail
        refine (law04_awake _ (HT.out.ext X2.out)).mono ?_
        rintro e w5 ⟨rfl, x⟩
        go_wp2_with fail
        go_ret
        exact ⟨rfl, X2.out.trans x⟩

end Go.Proofs.YtfhnjecnamgpkaaDoor
