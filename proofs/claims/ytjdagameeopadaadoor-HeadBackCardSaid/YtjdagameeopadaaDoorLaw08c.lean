/-
  The walk of commonagelaw08.HeadBack.
-/
import Derived.Test.YtjdagameeopadaaDoorLaw08b
namespace Go.Proofs.YtjdagameeopadaaDoor
open Go.RowKit

theorem hd_flip {h : Hd} (k : hdok h) {j : Nat} (hj : j < 16 ∨ (56 ≤ j ∧ j < 64)) : ¬ hdis (((hdword h).toNat ^^^ 2 ^ j : Nat) : Int) := by
  have b := hdword_64 k
  obtain ⟨n, hn⟩ := Int.eq_ofNat_of_zero_le b.1
  have e1 : n % 65536 = 0 := by
    obtain ⟨⟨h1, h2⟩, h3, h4, h5, h6⟩ := k
    unfold hdword at hn; omega
  have e2 : n / 72057594037927936 = 199 := by
    obtain ⟨⟨h1, h2⟩, h3, h4, h5, h6⟩ := k
    unfold hdword at hn; omega
  rw [hn, Int.toNat_natCast]
  intro hd
  rcases hj with hj | ⟨hj, hj'⟩
  · have a := hd.1
    have e : (n ^^^ 2 ^ j) % 2 ^ 16 = 2 ^ j := by
      rw [Nat.xor_mod_two_pow, show n % 2 ^ 16 = 0 from e1, Nat.zero_xor, Nat.mod_eq_of_lt (Nat.pow_lt_pow_right (by decide) hj)]
    have p := Nat.two_pow_pos j
    have : (2 : Nat) ^ 16 = 65536 := rfl
    rw [this] at e
    omega
  · have a := hd.2.1
    have e : (n ^^^ 2 ^ j) / 2 ^ 56 = 199 ^^^ 2 ^ (j - 56) := by
      rw [← Nat.shiftRight_eq_div_pow, Nat.shiftRight_xor_distrib, Nat.shiftRight_eq_div_pow, Nat.shiftRight_eq_div_pow, show n / 2 ^ 56 = 199 from e2]
      congr 1
      rw [show j = (j - 56) + 56 by omega, Nat.pow_add, Nat.mul_div_cancel _ (Nat.two_pow_pos 56)]
      simp
    have q : ∀ i : Fin 8, 199 ^^^ 2 ^ i.val ≠ 199 := by decide
    have q := q ⟨j - 56, by omega⟩
    have : (2 : Nat) ^ 56 = 72057594037927936 := rfl
    rw [this] at e
    simp only at q
    omega
theorem hxor_code {u i : Int} (h0 : 0 ≤ u) (hu : u < 18446744073709551616) (h1 : 0 ≤ i) (h2 : i < 64) : bits .xor .u64 u (IntKind.u64.wrap (2 ^ i.toNat)) = ((u.toNat ^^^ 2 ^ i.toNat : Nat) : Int) := by
  obtain ⟨n, rfl⟩ := Int.eq_ofNat_of_zero_le h0
  have hn : n < 2 ^ 64 := lt64 h0 hu
  have e : (2 : Nat) ^ 64 = 18446744073709551616 := by decide
  have hp : (2 : Nat) ^ i.toNat < 2 ^ 64 := Nat.pow_lt_pow_right (by decide) (by omega)
  have c : ((2 : Int) ^ i.toNat) = ((2 ^ i.toNat : Nat) : Int) := by simp
  have w1 : ((2 ^ i.toNat : Nat) : Int) % 18446744073709551616 = ((2 ^ i.toNat : Nat) : Int) := Int.emod_eq_of_lt (Int.natCast_nonneg _) (of64 hp).2
  rw [c, IntKind.wrap_u64, w1, u64_xor_nat _ _ (by omega) (by rw [e] at hp; exact hp), Int.toNat_natCast]

set_option maxRecDepth 100000 in
set_option maxHeartbeats 8000000 in
theorem law08_HeadBack (h : Hd) (u k : Int) (w : World) (hW : Wid w) (hu : 0 ≤ u ∧ u < 18446744073709551616) (hk : 0 ≤ k ∧ k ≤ 255) :
    Calls Tryd.prog 4 #[.agg #[.int .i64 h.c, .int .i64 h.r, .int .i64 h.w], .int .u64 u, .int .u8 k] w fun e w' => e = .returned (.bool true) ∧ Ext w w' := by
  have HW := Lib.hid hW; clear hW
  have hx := (Ext.refl w).alloc (.cells #[.int .i64 h.c, .int .i64 h.r, .int .i64 h.w] 23)
  have h3 := Ext.refl (w.alloc (.cells #[.int .i64 h.c, .int .i64 h.r, .int .i64 h.w] 23))
  have h1 := hx
  have U := Lib.hid hu.2
  have u0 := hu.1; have k0 := hk.1; have k1 := hk.2
  obtain ⟨g, q, hg⟩ : ∃ g q, hdget u = (g, q) := ⟨_, _, rfl⟩
  have G := Lib.hid hg
  have again : q = 0 → hdput g = (u, 0) := by
    intro e
    by_cases d : hdis u
    · rw [hdget_yes d] at hg
      cases hg
      rw [hdput_yes d.2.2, hdis_word d]
    · rw [hdget_no d] at hg
      cases hg; cases e
  have AG := Lib.hid again
  clear hg again hu hk
  have hq : q = 0 ∨ (q == 0) = false := by
    by_cases e : q = 0
    · exact .inl e
    · exact .inr (by simpa using e)
  obtain ⟨p, s, hp⟩ : ∃ p s, hdput h = (p, s) := ⟨_, _, rfl⟩
  have P := Lib.hid hp
  rcases hq with rfl | hq
  case' inl =>
    have A0 := Lib.hid (AG.out rfl)
    clear AG
    go_enter Tryd.func4, Tryd.ntmps4
    go_wp2_with fail
    refine (head_Get u g 0 G.out u0 U.out (HW.out.ext h1)).mono ?_
    rintro e v1 ⟨rfl, h2⟩
    replace h1 := h1.trans h2
    replace h3 := h3.trans h2
    clear h2
    go_wp2_with fail
    replace h1 := h1.alloc (.cells #[.int .i64 g.c, .int .i64 g.r, .int .i64 g.w] 23)
    replace h3 := h3.alloc (.cells #[.int .i64 g.c, .int .i64 g.r, .int .i64 g.w] 23)
    refine (head_Put g u 0 A0.out (HW.out.ext h1)).mono ?_
    rintro e v2 ⟨rfl, h2⟩
    replace h1 := h1.trans h2
    replace h3 := h3.trans h2
    clear h2
    obtain ⟨b0, b1, b2⟩ := hbox h3
    go_wp2_with fail
    clear b0 b1 b2 A0
  case' inr =>
    clear AG
    go_enter Tryd.func4, Tryd.ntmps4
    go_wp2_with fail
    refine (head_Get u g q G.out u0 U.out (HW.out.ext h1)).mono ?_
    rintro e v1 ⟨rfl, h2⟩
    replace h1 := h1.trans h2
    replace h3 := h3.trans h2
    clear h2
    obtain ⟨b0, b1, b2⟩ := hbox h3
    have bz := cell_lt b0
    go_wp2_with fail
    clear b0 b1 b2 bz
    replace h1 := h1.alloc (.cells #[.int .i64 g.c, .int .i64 g.r, .int .i64 g.w] 23)
    replace h3 := h3.alloc (.cells #[.int .i64 g.c, .int .i64 g.r, .int .i64 g.w] 23)
  all_goals
    refine (head_Put h p s P.out (HW.out.ext h1)).mono ?_
    rintro e v2 ⟨rfl, h2⟩
    replace h1 := h1.trans h2
    replace h3 := h3.trans h2
    clear h2
    by_cases hk : hdok h
    · rw [hdput_yes hk] at hp
      obtain ⟨rfl, rfl⟩ : hdword h = p ∧ 0 = s := by simpa using hp
      have HK := Lib.hid hk
      have bw := hdword_64 hk
      have B0 := bw.1
      have B1 := Lib.hid bw.2
      have GB := Lib.hid (hdget_word hk)
      have ND := Lib.hid (hdneed_yes hk)
      obtain ⟨⟨a1, a2⟩, a3, a4, a5, a6⟩ := hk
      clear hp bw
      obtain ⟨m, hm⟩ : ∃ m : Nat, k % 24 = m := ⟨(k % 24).toNat, by omega⟩
      have hm24 : m < 24 := by omega
      obtain ⟨kk, hkk, hkc⟩ : ∃ kk : Nat, (kk < 16 ∨ (56 ≤ kk ∧ kk < 64)) ∧ ((m < 16 ∧ kk = m) ∨ (16 ≤ m ∧ kk = m + 40)) := by
        by_cases c : m < 16
        · exact ⟨m, .inl c, .inl ⟨c, rfl⟩⟩
        · exact ⟨m + 40, .inr (by omega), .inr ⟨by omega, rfl⟩⟩
      have NF := Lib.hid (hdget_no (hd_flip HK.out hkk))
      have NB : Hid (0 ≤ (((hdword h).toNat ^^^ 2 ^ kk : Nat) : Int) ∧ (((hdword h).toNat ^^^ 2 ^ kk : Nat) : Int) < 18446744073709551616) := Lib.hid (of64 (Nat.xor_lt_two_pow (lt64 B0 B1.out) (Nat.pow_lt_pow_right (by decide) (by omega))))
      have XC := Lib.hid (hxor_code (u := hdword h) (i := kk) B0 B1.out (by omega) (by omega))
      rw [Int.toNat_natCast] at XC
      have HM := Lib.hid hm
      rcases hkc with ⟨c, rfl⟩ | ⟨c, rfl⟩
      all_goals
        clear hkk
        go_wp2_with fail
        refine (head_Get (hdword h) h 0 GB.out B0 B1.out (HW.out.ext h1)).mono ?_
        rintro e v3 ⟨rfl, h2⟩
        replace h1 := h1.trans h2
        replace h3 := h3.trans h2
        clear h2
        go_wp2_with fail
        have h5 := Ext.refl (v3.alloc (.cells #[.int .i64 h.c, .int .i64 h.r, .int .i64 h.w] 23))
        replace h1 := h1.alloc (.cells #[.int .i64 h.c, .int .i64 h.r, .int .i64 h.w] 23)
        replace h3 := h3.alloc (.cells #[.int .i64 h.c, .int .i64 h.r, .int .i64 h.w] 23)
        clear hm
        rw [XC.out]
        refine (head_Get _ hdnil 5 NF.out NB.out.1 NB.out.2 (HW.out.ext h1)).mono ?_
        rintro e v4 ⟨rfl, h2⟩
        replace h1 := h1.trans h2
        replace h3 := h3.trans h2
        replace h5 := h5.trans h2
        clear h2
        obtain ⟨b0, b1, b2⟩ := hbox h3
        obtain ⟨d0, d1, d2⟩ := hbox h5
        have bz := cell_lt b0
        have dz := cell_lt d0
        go_wp2_with fail
        clear b0 b1 b2 d0 d1 d2 bz dz h5
        refine (head_Need h _ 0 ND.out).mono ?_
        rintro e v5 ⟨rfl, h2⟩
        replace h3 := h3.trans (((Ext.refl _).alloc _).trans h2)
        clear h2 h1
        go_wp2_with fail
        go_loopw [20, 21] (fun rf l wr => ∃ j : Nat, j ≤ 64 ∧ rf = .int .i64 (if (j : Int) < h.r then (j : Int) else h.r) ∧ l = .int .i64 j ∧ Ext (w.alloc (.cells #[.int .i64 h.c, .int .i64 h.r, .int .i64 h.w] 23)) wr) (fun _ l _ => 64 - (intOf l).toNat)
        case atStart => exact ⟨0, by decide, by rw [show (if ((0 : Nat) : Int) < h.r then ((0 : Nat) : Int) else h.r) = 0 by split <;> omega], rfl, h3⟩
        case round =>
          clear h3
          obtain ⟨j, hj, rfl, rfl, h3⟩ := hrel
          obtain ⟨b0, b1, b2⟩ := hbox h3
          by_cases hlt : j < 64
          · by_cases hr : (j : Int) < h.r
            · have F := Lib.hid (show hdfield h j = (true, 0) by unfold hdfield; rw [if_pos HK.out, if_neg (by omega), decide_eq_true hr])
              have t1 : decide ((j : Int) < h.r + h.w) = true := by simp; omega
              rw [if_pos hr]
              go_wp2_with fail
              refine (head_Field h j true 0 F.out).mono ?_
              clear b0 b1 b2
              rintro e v5 ⟨rfl, h2⟩
              replace h3 := h3.trans h2
              clear h2
              obtain ⟨b0, b1, b2⟩ := hbox h3
              go_wp2_with fail
              clear b0 b1 b2
              go_roundw
              case rel => exact ⟨j + 1, by omega, by rw [show (if ((j + 1 : Nat) : Int) < h.r then ((j + 1 : Nat) : Int) else h.r) = (j : Int) + 1 by split <;> omega], by go_num, h3⟩
              case measure => simp [intOf]; omega
            · rw [if_neg hr]
              have hr1 : h.r ≤ (j : Int) := by omega
              by_cases hm : (j : Int) < h.r + h.w
              · have F := Lib.hid (show hdfield h j = (false, 0) by unfold hdfield; rw [if_pos HK.out, if_neg (by omega), decide_eq_false hr])
                clear hr
                go_wp2_with fail
                refine (head_Field h j false 0 F.out).mono ?_
                clear b0 b1 b2
                rintro e v5 ⟨rfl, h2⟩
                replace h3 := h3.trans h2
                clear h2
                obtain ⟨b0, b1, b2⟩ := hbox h3
                go_wp2_with fail
                clear b0 b1 b2
                go_roundw
                case rel => exact ⟨j + 1, by omega, by rw [if_neg (by omega)], by go_num, h3⟩
                case measure => simp [intOf]; omega
              · have F := Lib.hid (show hdfield h j = (false, 110) by unfold hdfield; rw [if_pos HK.out, if_pos (by omega)])
                have hm1 : h.r + h.w ≤ (j : Int) := by omega
                clear hr hm
                go_wp2_with fail
                refine (head_Field h j false 110 F.out).mono ?_
                clear b0 b1 b2
                rintro e v5 ⟨rfl, h2⟩
                replace h3 := h3.trans h2
                clear h2
                obtain ⟨b0, b1, b2⟩ := hbox h3
                go_wp2_with fail
                clear b0 b1 b2
                go_roundw
                case rel => exact ⟨j + 1, by omega, by rw [if_neg (by omega)], by go_num, h3⟩
                case measure => simp [intOf]; omega
          · obtain rfl : j = 64 := by omega
            rw [show (if ((64 : Nat) : Int) < h.r then ((64 : Nat) : Int) else h.r) = h.r by split <;> omega]
            go_wp2_with fail
            refine (law08_awake _ (HW.out.ext (hx.trans h3))).mono ?_
            rintro e v6 ⟨rfl, h2⟩
            go_wp2_with fail
            go_ret
            exact ⟨rfl, (hx.trans h3).trans h2⟩
    · rw [hdput_no hk] at hp
      obtain ⟨rfl, rfl⟩ : 0 = p ∧ 2 = s := by simpa using hp
      go_wp2_with fail
      refine (law08_awake _ (HW.out.ext h1)).mono ?_
      rintro e v6 ⟨rfl, h2⟩
      go_wp2_with fail
      go_ret
      exact ⟨rfl, h1.trans h2⟩

end Go.Proofs.YtjdagameeopadaaDoor
