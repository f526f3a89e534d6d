/-
  The walks of commonagelaw04.BitsBoth and BitsLess.
-/
import Derived.Test.YtfhnjecnamgpkaaDoorLaw04a
namespace Go.Proofs.YtfhnjecnamgpkaaDoor
open Go.RowKit

theorem next_here {bs : List Bool} {n : Nat} (h : n < bs.length) : IsNext bs n (bnth bs n) n true :=
  .inl ⟨rfl, n, rfl, Int.le_refl _, h, rfl, fun j h1 h2 => absurd h1 (by omega)⟩
theorem next_past {bs : List Bool} {n : Nat} {p : Int} {q : Bool} (h : IsNext bs n (!bnth bs n) p q) : q = false ∨ (q = true ∧ (n : Int) < p) := by
  rcases h with ⟨rfl, i, rfl, h1, h2, h3, h4⟩ | ⟨rfl, rfl, h4⟩
  · right
    refine ⟨rfl, ?_⟩
    have : i ≠ n := by rintro rfl; cases hb : bnth bs i <;> rw [hb] at h3 <;> cases h3
    omega
  · exact .inl rfl
theorem next_none {bs : List Bool} {fm : Int} {is : Bool} {p : Int} {q : Bool} (h : IsNext bs fm is p q) (hf : (bs.length : Int) ≤ fm ∨ bs.length = 0) : q = false := by
  rcases h with ⟨rfl, i, rfl, h1, h2, h3, h4⟩ | ⟨rfl, rfl, h4⟩
  · omega
  · rfl
theorem next_some {bs : List Bool} {fm : Int} {p p' : Int} {q q' : Bool} (h : IsNext bs fm true p q) (h' : IsNext bs fm false p' q') (hf : fm ≤ 0) (hl : 0 < bs.length) : q = true ∨ q' = true := by
  rcases h with ⟨rfl, i, rfl, h1, h2, h3, h4⟩ | ⟨rfl, rfl, h4⟩
  · exact .inl rfl
  · rcases h' with ⟨rfl, i, rfl, h1, h2, h3, h5⟩ | ⟨rfl, rfl, h5⟩
    · exact .inr rfl
    · have a := h4 0 (by omega) hl
      have b := h5 0 (by omega) hl
      rw [a] at b; cases b

set_option maxRecDepth 100000 in
set_option maxHeartbeats 8000000 in
theorem law04_BitsBoth {la : Option Addr} {lc : Nat} (n : Int) (l : List Int) (at' : Int) (w : World) (hT : Tab w) (hn : 0 ≤ n ∧ n ≤ 65535) (h : At .u16 w la l) (hl : l.length ≤ maxLen) (hb : ∀ x ∈ l, 0 ≤ x ∧ x ≤ 65535) :
    Calls Tryd.prog 5 #[.int .u16 n, .slice la l.length lc, .int .i64 at'] w fun e w' => e = .returned (.bool true) ∧ Ext w w' := by
  have HT := Lib.hid hT; have H := Lib.hid h; have HB := Lib.hid hb; have HL := Lib.hid hl
  obtain ⟨N, hN⟩ : ∃ N : Nat, n % 301 = N := ⟨(n % 301).toNat, by omega⟩
  have HN := Lib.hid hN
  have n0 := hn.1; have n1 := hn.2
  have hN3 : N ≤ 300 := by omega
  have BL := Lib.hid (madeB_len N l)
  clear hT h hb hl hN
  generalize hbs : madeB N l = bs at *
  have HBS := Lib.hid hbs
  clear hbs
  obtain ⟨p1, q1, e1⟩ := next_exists bs at' true
  obtain ⟨p2, q2, e2⟩ := next_exists bs at' false
  have E1 := Lib.hid e1; have E2 := Lib.hid e2
  by_cases hin : 0 ≤ at' ∧ at' < N
  · obtain ⟨k, rfl⟩ := Int.eq_ofNat_of_zero_le hin.1
    have hk : k < bs.length := by have := BL.out; omega
    have hkN : k < N := by omega
    have hh := next_here hk
    obtain ⟨v, hv⟩ : ∃ v, bnth bs k = v := ⟨_, rfl⟩
    have GV := Lib.hid (show bget bs k = v by rw [bget_nat, hv])
    have hp : ∀ p q, IsNext bs k (!v) p q → q = false ∨ (q = true ∧ (k : Int) < p) := fun p q h => next_past (by rw [hv]; exact h)
    rw [hv] at hh
    have facts : (v = true ∧ q1 = true ∧ p1 = k ∧ (q2 = false ∨ (q2 = true ∧ (k : Int) < p2))) ∨ (v = false ∧ q2 = true ∧ p2 = k ∧ (q1 = false ∨ (q1 = true ∧ (k : Int) < p1))) := by
      cases v
      · right
        have := e2.same hh
        exact ⟨rfl, this.2, this.1, hp _ _ e1⟩
      · left
        have := e1.same hh
        exact ⟨rfl, this.2, this.1, hp _ _ e2⟩
    clear hv hh hp e1 e2 hin
    have facts2 : (v = true ∧ q1 = true ∧ p1 = k ∧ (q2 = false ∨ (q2 = true ∧ (p2 == (k : Int)) = false ∧ decide (p2 < (k : Int)) = false))) ∨ (v = false ∧ q2 = true ∧ p2 = k ∧ (q1 = false ∨ (q1 = true ∧ (p1 == (k : Int)) = false ∧ decide (p1 < (k : Int)) = false))) := by
      rcases facts with ⟨a, b, c, d | ⟨d, f⟩⟩ | ⟨a, b, c, d | ⟨d, f⟩⟩
      · exact .inl ⟨a, b, c, .inl d⟩
      · exact .inl ⟨a, b, c, .inr ⟨d, by simp; omega, by simp; omega⟩⟩
      · exact .inr ⟨a, b, c, .inl d⟩
      · exact .inr ⟨a, b, c, .inr ⟨d, by simp; omega, by simp; omega⟩⟩
    clear facts
    rcases facts2 with ⟨rfl, rfl, rfl, rfl | ⟨rfl, hne, hlt⟩⟩ | ⟨rfl, rfl, rfl, rfl | ⟨rfl, hne, hlt⟩⟩
    all_goals
      go_enter Tryd.func5, Tryd.ntmps5
      go_wp2_with fail
      refine (law04_made n l N HN.out n0 H.out HL.out HB.out n1).mono ?_
      rw [HBS.out]
      rintro e w1 ⟨b, g, a, cap, rfl, hr, _, _, _, _, _, x1⟩
      have R := Lib.hid hr; have X := Lib.hid x1
      rw [BL.out]
      clear hr x1
      go_wp2_with fail
      refine (row_Next bs _ _ R.out (HT.out.ext X.out) E1.out).mono ?_
      rintro e w2 ⟨rfl, x⟩
      replace R := Lib.hid (R.out.ext x); replace X := Lib.hid (X.out.trans x)
      clear x
      go_wp2_with fail
      refine (row_Next bs _ _ R.out (HT.out.ext X.out) E2.out).mono ?_
      rintro e w3 ⟨rfl, x⟩
      replace R := Lib.hid (R.out.ext x); replace X := Lib.hid (X.out.trans x)
      clear x
      go_wp2_with fail
      refine (row_Len bs R.out).mono ?_
      rw [BL.out]
      rintro e w4 ⟨rfl, rfl⟩
      go_wp2_with fail
      refine (row_Get bs _ R.out GV.out).mono ?_
      rintro e w4 ⟨rfl, rfl⟩
      go_wp2_with fail
      refine (law04_awake _ (HT.out.ext X.out)).mono ?_
      rintro e w5 ⟨rfl, x⟩
      go_wp2_with fail
      go_ret
      exact ⟨rfl, X.out.trans x⟩
  · by_cases hneg : at' < 0
    · have facts : (N = 0 ∧ q1 = false ∧ q2 = false) ∨ (0 < N ∧ ((q1 = true ∧ (q2 = true ∨ q2 = false)) ∨ (q1 = false ∧ q2 = true))) := by
        by_cases h0 : N = 0
        · exact .inl ⟨h0, next_none e1 (.inr (by rw [BL.out]; exact h0)), next_none e2 (.inr (by rw [BL.out]; exact h0))⟩
        · right
          refine ⟨by omega, ?_⟩
          have := next_some e1 e2 (by omega) (by rw [BL.out]; omega)
          cases q1 <;> cases q2 <;> simp_all
      clear e1 e2 hin
      rcases facts with ⟨hN0, rfl, rfl⟩ | ⟨hN0, ⟨rfl, rfl | rfl⟩ | ⟨rfl, rfl⟩⟩
      · have hg : decide ((0 : Int) < (N : Int)) = false := by simp; omega
        have hg2 : decide (0 < N) = false := by simp; omega
        clear hN0
        go_enter Tryd.func5, Tryd.ntmps5
        go_wp2_with fail
        refine (law04_made n l N HN.out n0 H.out HL.out HB.out n1).mono ?_
        rw [HBS.out]
        rintro e w1 ⟨b, g, a, cap, rfl, hr, _, _, _, _, _, x1⟩
        have R := Lib.hid hr; have X := Lib.hid x1
        rw [BL.out]
        clear hr x1
        go_wp2_with fail
        refine (row_Next bs _ _ R.out (HT.out.ext X.out) E1.out).mono ?_
        rintro e w2 ⟨rfl, x⟩
        replace R := Lib.hid (R.out.ext x); replace X := Lib.hid (X.out.trans x)
        clear x
        go_wp2_with fail
        refine (row_Next bs _ _ R.out (HT.out.ext X.out) E2.out).mono ?_
        rintro e w3 ⟨rfl, x⟩
        replace R := Lib.hid (R.out.ext x); replace X := Lib.hid (X.out.trans x)
        clear x
        go_wp2_with fail
        refine (row_Len bs R.out).mono ?_
        rw [BL.out]
        rintro e w4 ⟨rfl, rfl⟩
        go_wp2_with fail
        refine (law04_awake _ (HT.out.ext X.out)).mono ?_
        rintro e w5 ⟨rfl, x⟩
        go_wp2_with fail
        go_ret
        exact ⟨rfl, X.out.trans x⟩
      all_goals
        have hg : decide ((0 : Int) < (N : Int)) = true := by simp; omega
        have hg2 : decide (0 < N) = true := by simp; omega
        go_enter Tryd.func5, Tryd.ntmps5
        go_wp2_with fail
        refine (law04_made n l N HN.out n0 H.out HL.out HB.out n1).mono ?_
        rw [HBS.out]
        rintro e w1 ⟨b, g, a, cap, rfl, hr, _, _, _, _, _, x1⟩
        have R := Lib.hid hr; have X := Lib.hid x1
        rw [BL.out]
        clear hr x1
        go_wp2_with fail
        refine (row_Next bs _ _ R.out (HT.out.ext X.out) E1.out).mono ?_
        rintro e w2 ⟨rfl, x⟩
        replace R := Lib.hid (R.out.ext x); replace X := Lib.hid (X.out.trans x)
        clear x
        go_wp2_with fail
        refine (row_Next bs _ _ R.out (HT.out.ext X.out) E2.out).mono ?_
        rintro e w3 ⟨rfl, x⟩
        replace R := Lib.hid (R.out.ext x); replace X := Lib.hid (X.out.trans x)
        clear x
        go_wp2_with fail
        refine (row_Len bs R.out).mono ?_
        rw [BL.out]
        rintro e w4 ⟨rfl, rfl⟩
        go_wp2_with fail
        refine (law04_awake _ (HT.out.ext X.out)).mono ?_
        rintro e w5 ⟨rfl, x⟩
        go_wp2_with fail
        go_ret
        exact ⟨rfl, X.out.trans x⟩
    · obtain ⟨rfl, rfl⟩ : q1 = false ∧ q2 = false := ⟨next_none e1 (.inl (by rw [BL.out]; omega)), next_none e2 (.inl (by rw [BL.out]; omega))⟩
      have h0 : 0 ≤ at' := by omega
      have h1 : (N : Int) ≤ at' := by omega
      clear e1 e2 hin hneg
      go_enter Tryd.func5, Tryd.ntmps5
      go_wp2_with fail
      refine (law04_made n l N HN.out n0 H.out HL.out HB.out n1).mono ?_
      rw [HBS.out]
      rintro e w1 ⟨b, g, a, cap, rfl, hr, _, _, _, _, _, x1⟩
      have R := Lib.hid hr; have X := Lib.hid x1
      rw [BL.out]
      clear hr x1
      go_wp2_with fail
      refine (row_Next bs _ _ R.out (HT.out.ext X.out) E1.out).mono ?_
      rintro e w2 ⟨rfl, x⟩
      replace R := Lib.hid (R.out.ext x); replace X := Lib.hid (X.out.trans x)
      clear x
      go_wp2_with fail
      refine (row_Next bs _ _ R.out (HT.out.ext X.out) E2.out).mono ?_
      rintro e w3 ⟨rfl, x⟩
      replace R := Lib.hid (R.out.ext x); replace X := Lib.hid (X.out.trans x)
      clear x
      go_wp2_with fail
      refine (row_Len bs R.out).mono ?_
      rw [BL.out]
      rintro e w4 ⟨rfl, rfl⟩
      go_wp2_with fail
      refine (law04_awake _ (HT.out.ext X.out)).mono ?_
      rintro e w5 ⟨rfl, x⟩
      go_wp2_with fail
      go_ret
      exact ⟨rfl, X.out.trans x⟩

end Go.Proofs.YtfhnjecnamgpkaaDoor
