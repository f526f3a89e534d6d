/-
  bits.Len64, field.may, mask, Get, Set: each function hands back what its plain function computes, and leaves all that there was as it was.
-/
import Derived.Test.YtjdagameeopadaaDoorProg
import Derived.Test.YtjdagameeopadaaDoorWidP
import Derived.Test.YtjdagameeopadaaDoorEnt
import Derived.Lib.BitFns
import Derived.WalkKit
import Derived.WalkSpells
import Derived.WalkLawsBesides
import Derived.Outline
import Derived.BigQuiet
import Derived.Deep.QuietTactic
namespace Go.Proofs.YtjdagameeopadaaDoor
open Go.RowKit

/-! ### bits.Len64 -/
theorem len_shift {x q : Int} {k d : Nat} (h0 : 0 ≤ x) (h1 : x < 18446744073709551616) (hd : 2 ^ k = d) (hq : q = x / d) (hx : (d : Int) ≤ x) (h8 : q < 256) :
    (Lib.len8 q) + k = (Lib.bitLen x.toNat : Int) := by
  have hd0 : 0 < d := hd ▸ Nat.two_pow_pos k
  have hq0 : 0 ≤ q := by rw [hq]; exact Int.ediv_nonneg h0 (by omega)
  have e : q.toNat = x.toNat / d := by
    obtain ⟨y, rfl⟩ := Int.eq_ofNat_of_zero_le h0
    rw [hq, ← Int.natCast_ediv, Int.toNat_natCast, Int.toNat_natCast]
  rw [Lib.len8_of q hq0 (by omega), e, Lib.bitLen_shift k x.toNat (by omega) (lt64 h0 h1), hd]
  omega
theorem len_le8 {q : Int} (h0 : 0 ≤ q) (h1 : q < 256) : 0 ≤ Lib.len8 q ∧ Lib.len8 q ≤ 8 := by
  rw [Lib.len8_of q h0 (by omega)]
  have := Lib.bitLen_le8' q h0 (by omega)
  omega
theorem len_idx (q : Int) (h : q.toNat < Lib.len8tab.size) : ((Lib.len8tab[q.toNat]'h).toNat : Int) = Lib.len8 q := by
  unfold Lib.len8
  simp [h]
theorem len_way {x q : Int} (k d : Nat) (h0 : 0 ≤ x) (h1 : x < 18446744073709551616) (hd : 2 ^ k = d) (hq : q = x / d) (hx : (d : Int) ≤ x) (h8 : q < 256) (hk : k ≤ 56) (h : q.toNat < Lib.len8tab.size) :
    wrap64 (k + wrap64 ((Lib.len8tab[q.toNat]'h).toNat : Int)) = (Lib.bitLen x.toNat : Int) := by
  have hq0 : 0 ≤ q := by rw [hq]; exact Int.ediv_nonneg h0 (by omega)
  have l := len_le8 hq0 h8
  rw [len_idx, IntWalk.wrap64_in (Lib.len8 q) (by omega), IntWalk.wrap64_in _ (by omega), Int.add_comm]
  exact len_shift h0 h1 hd hq hx h8
theorem len_way0 {x : Int} (h0 : 0 ≤ x) (h8 : x < 256) (h : x.toNat < Lib.len8tab.size) :
    wrap64 ((Lib.len8tab[x.toNat]'h).toNat : Int) = (Lib.bitLen x.toNat : Int) := by
  have l := len_le8 h0 h8
  rw [len_idx, IntWalk.wrap64_in (Lib.len8 x) (by omega), Lib.len8_of x h0 (by omega)]

theorem bitLen_iff {x m : Nat} (hx : x < 2 ^ 64) (hm : m ≤ 64) : Lib.bitLen x ≤ m ↔ x < 2 ^ m := by
  constructor
  · intro h
    rcases Nat.lt_or_ge x (2 ^ m) with c | c
    · exact c
    · exfalso
      have h1 := Lib.bitLen_shift m x c hx
      have h2 : 0 < x / 2 ^ m := Nat.div_pos c (Nat.two_pow_pos m)
      have h3 := Lib.bitLen_half (x / 2 ^ m) (by omega) (Nat.lt_of_le_of_lt (Nat.div_le_self _ _) hx)
      omega
  · intro h; exact Lib.bitLen_le x m hm h
theorem bitLen_64 (x : Nat) (hx : x < 2 ^ 64) : Lib.bitLen x ≤ 64 := Lib.bitLen_le x 64 (Nat.le_refl _) hx
theorem len_test {v m : Int} (h0 : 0 ≤ v) (h1 : v < 18446744073709551616) (a : 1 ≤ m) (b : m ≤ 64) : decide (m < (Lib.bitLen v.toNat : Int)) = !fitsB v m := by
  have := bitLen_iff (x := v.toNat) (m := m.toNat) (lt64 h0 h1) (by omega)
  unfold fitsB
  by_cases h : v.toNat < 2 ^ m.toNat
  · rw [decide_eq_true h, decide_eq_false (by have := this.2 h; omega)]; rfl
  · rw [decide_eq_false h, decide_eq_true (by have := fun c => h (this.1 c); omega)]; rfl

set_option maxHeartbeats 4000000 in
set_option maxRecDepth 100000 in
theorem bits_Len64 (x n : Int) (w : World) (h0 : 0 ≤ x) (h1 : x < 18446744073709551616) (hn : (Lib.bitLen x.toNat : Int) = n) :
    Calls Tryd.prog 21 #[.int .u64 x] w fun e w' => e = .returned (.int .i64 n) ∧ w = w' := by
  have HN := Lib.hid hn; have H1 := Lib.hid h1; clear hn
  replace h1 : x ≤ 18446744073709551615 := by omega
  have ht := Lib.len8tab_size
  go_enter Tryd.func21, Tryd.ntmps21
  go_wp2_with fail
  all_goals go_ret
  all_goals refine ⟨ret_int ?_, rfl⟩
  all_goals rw [← HN.out]
  · exact len_way 56 72057594037927936 h0 H1.out (by decide) (by omega) (by omega) (by omega) (by omega) _
  · exact len_way 48 281474976710656 h0 H1.out (by decide) (by omega) (by omega) (by omega) (by omega) _
  · exact len_way 40 1099511627776 h0 H1.out (by decide) (by omega) (by omega) (by omega) (by omega) _
  · exact len_way 32 4294967296 h0 H1.out (by decide) (by omega) (by omega) (by omega) (by omega) _
  · exact len_way 24 16777216 h0 H1.out (by decide) (by omega) (by omega) (by omega) (by omega) _
  · exact len_way 16 65536 h0 H1.out (by decide) (by omega) (by omega) (by omega) (by omega) _
  · exact len_way 8 256 h0 H1.out (by decide) (by omega) (by omega) (by omega) (by omega) _
  · have hb := bitLen_64 x.toNat (lt64 h0 H1.out)
    rw [len_way0 h0 (by omega), IntWalk.wrap64_in _ (by omega)]

/-! ### may, mask -/
set_option maxHeartbeats 1000000 in
theorem field_may {f m : Int} (b : Bool) {w : World} (hb : mayB f m = b) : Calls Tryd.prog 28 #[.int .i64 f, .int .i64 m] w fun e w' => e = .returned (.bool b) ∧ w = w' := by
  have HB := Lib.hid hb; clear hb
  go_enter Tryd.func28, Tryd.ntmps28
  go_wp2_with fail
  all_goals go_ret
  all_goals refine ⟨ret_bool ?_, rfl⟩
  all_goals rw [← HB.out, Bool.eq_iff_iff, mayB_iff]
  all_goals simp
  all_goals omega

set_option maxHeartbeats 1000000 in
theorem field_mask {m : Int} (k : Int) {w : World} (h1 : 1 ≤ m) (h2 : m ≤ 64) (hk : ((2 ^ m.toNat - 1 : Nat) : Int) = k) : Calls Tryd.prog 29 #[.int .i64 m] w fun e w' => e = .returned (.int .u64 k) ∧ w' = w := by
  have HK := Lib.hid hk; clear hk
  go_enter Tryd.func29, Tryd.ntmps29
  go_wp2_with fail
  go_ret
  refine ⟨ret_int ?_, rfl⟩
  rw [← HK.out, ← mask_eq (by omega), show (64 - m).toNat = 64 - m.toNat by omega]
  rfl

/-! ### Get, Set -/
theorem div_pow_cast (n k : Nat) : (n : Int) / 2 ^ k = ((n / 2 ^ k : Nat) : Int) := by simp
theorem mul_pow_cast (n k : Nat) : (n : Int) * 2 ^ k = ((n * 2 ^ k : Nat) : Int) := by simp
theorem get_codeI {v f m : Int} (h0 : 0 ≤ v) (h1 : v < 18446744073709551616) (hm : mayB f m = true) : bits .and .u64 (v / 2 ^ f.toNat) ((2 ^ m.toNat - 1 : Nat) : Int) = fgetI v f m := by
  obtain ⟨a, b, rfl, rfl, b1, b2, b3⟩ := mayB_nat hm
  obtain ⟨n, rfl⟩ := Int.eq_ofNat_of_zero_le h0
  have hn : n < 2 ^ 64 := lt64 h0 h1
  have e : (2 : Nat) ^ 64 = 18446744073709551616 := by decide
  have h2 : (2 : Nat) ^ b ≤ 2 ^ 64 := Nat.pow_le_pow_right (by decide) b2
  rw [Int.toNat_natCast, Int.toNat_natCast, div_pow_cast, u64_and_nat _ _ (Nat.lt_of_le_of_lt (Nat.div_le_self _ _) (by omega)) (by omega)]
  unfold fgetI
  rw [Int.toNat_natCast, Int.toNat_natCast, Int.toNat_natCast, ← get_code b2, mask_eq b2]
set_option maxHeartbeats 1000000 in
theorem field_Get {v f m : Int} (p q : Int) {w : World} (h0 : 0 ≤ v) (h1 : v < 18446744073709551616) (hpq : gget v f m = (p, q)) :
    Calls Tryd.prog 24 #[.int .u64 v, .int .i64 f, .int .i64 m] w fun e w' => e = .returned (.tuple #[.int .u64 p, .int .i64 q]) ∧ Ext w w' := by
  have H1 := Lib.hid h1; clear h1
  by_cases hm : mayB f m = true
  · have HM := Lib.hid hm
    obtain ⟨rfl, rfl⟩ : fgetI v f m = p ∧ 0 = q := by unfold gget at hpq; rw [if_pos hm] at hpq; simpa using hpq
    obtain ⟨g1, g2, g3, g4⟩ := mayB_iff.1 hm
    clear hm hpq
    go_enter Tryd.func24, Tryd.ntmps24
    go_wp2_with fail
    refine (field_may true HM.out).mono ?_
    rintro e w1000 ⟨rfl, rfl⟩
    go_wp2_with fail
    go_quiet ((go_at_call 29; exact Calls.quiet_of_same (field_mask _ g2 g3 rfl)))
    go_wp2_with fail
    go_ret2
    exact ⟨ret_int2 (get_codeI h0 H1.out HM.out) rfl, (Ext.refl w).drewN _⟩
  · have HM := Lib.hid (Bool.not_eq_true _ ▸ hm)
    obtain ⟨rfl, rfl⟩ : 0 = p ∧ 2 = q := by unfold gget at hpq; rw [if_neg hm] at hpq; simpa using hpq
    clear hm hpq
    go_enter Tryd.func24, Tryd.ntmps24
    go_wp2_with fail
    refine (field_may false HM.out).mono ?_
    rintro e w1000 ⟨rfl, rfl⟩
    go_wp2_with fail
    go_ret2
    exact ⟨rfl, Ext.refl _⟩

theorem set_codeI {u f m v : Int} (h0 : 0 ≤ u) (h1 : u < 18446744073709551616) (h2 : 0 ≤ v) (h3 : v < 18446744073709551616) (hm : mayB f m = true) (hf : fitsB v m = true) :
    bits .or .u64 (bits .andNot .u64 u (IntKind.u64.wrap (((2 ^ m.toNat - 1 : Nat) : Int) * 2 ^ f.toNat))) (IntKind.u64.wrap (v * 2 ^ f.toNat)) = fsetI u f m v := by
  obtain ⟨a, b, rfl, rfl, b1, b2, b3⟩ := mayB_nat hm
  obtain ⟨n, rfl⟩ := Int.eq_ofNat_of_zero_le h0
  obtain ⟨k, rfl⟩ := Int.eq_ofNat_of_zero_le h2
  have hn : n < 2 ^ 64 := lt64 h0 h1
  have e : (2 : Nat) ^ 64 = 18446744073709551616 := by decide
  unfold fitsB at hf
  simp only [Int.toNat_natCast, decide_eq_true_eq] at hf
  have m1 := mask_lt b3
  have m2 := val_lt b3 hf
  rw [Int.toNat_natCast, Int.toNat_natCast, mul_pow_cast, mul_pow_cast, IntKind.wrap_u64, IntKind.wrap_u64]
  have w1 : (((2 ^ b - 1) * 2 ^ a : Nat) : Int) % 18446744073709551616 = (((2 ^ b - 1) * 2 ^ a : Nat) : Int) := Int.emod_eq_of_lt (by omega) (by omega)
  have w2 : ((k * 2 ^ a : Nat) : Int) % 18446744073709551616 = ((k * 2 ^ a : Nat) : Int) := Int.emod_eq_of_lt (by omega) (by omega)
  rw [w1, w2, u64_andNot_nat _ _ (by omega) (by omega)]
  have e2 : 18446744073709551615 - (2 ^ b - 1) * 2 ^ a = 2 ^ 64 - ((2 ^ b - 1) * 2 ^ a + 1) := by omega
  rw [e2, u64_or_nat _ _ (Nat.lt_of_le_of_lt Nat.and_le_left (by omega)) (by omega), set_code hn b3 hf]
  unfold fsetI
  simp only [Int.toNat_natCast]

set_option maxHeartbeats 1000000 in
theorem field_Set {u f m v : Int} (p q : Int) {w : World} (h0 : 0 ≤ u) (h1 : u < 18446744073709551616) (h2 : 0 ≤ v) (h3 : v < 18446744073709551616) (hpq : gset u f m v = (p, q)) :
    Calls Tryd.prog 26 #[.int .u64 u, .int .i64 f, .int .i64 m, .int .u64 v] w fun e w' => e = .returned (.tuple #[.int .u64 p, .int .i64 q]) ∧ Ext w w' := by
  have H1 := Lib.hid h1; clear h1
  have H3 := Lib.hid h3; clear h3
  obtain ⟨n, hn⟩ : ∃ n : Int, (Lib.bitLen v.toNat : Int) = n := ⟨_, rfl⟩
  by_cases hm : mayB f m = true
  · have HM := Lib.hid hm
    obtain ⟨g1, g2, g3, g4⟩ := mayB_iff.1 hm
    have ht := len_test h2 H3.out g2 g3
    rw [hn] at ht
    have HN := Lib.hid hn; clear hn
    cases hf : fitsB v m
    · obtain ⟨rfl, rfl⟩ : 0 = p ∧ 4 = q := by unfold gset at hpq; rw [if_pos hm, hf] at hpq; simpa using hpq
      rw [hf] at ht
      clear hm hpq hf
      replace ht : m < n := by simpa using ht
      go_enter Tryd.func26, Tryd.ntmps26
      go_wp2_with fail
      refine (field_may true HM.out).mono ?_
      rintro e w1000 ⟨rfl, rfl⟩
      go_wp2_with fail
      refine (bits_Len64 _ n _ h2 H3.out HN.out).mono ?_
      rintro e w1000 ⟨rfl, rfl⟩
      go_wp2_with fail
      go_ret2
      exact ⟨rfl, Ext.refl _⟩
    · obtain ⟨rfl, rfl⟩ : fsetI u f m v = p ∧ 0 = q := by unfold gset at hpq; rw [if_pos hm, hf] at hpq; simpa using hpq
      have HF := Lib.hid hf
      rw [hf] at ht
      clear hm hpq hf
      replace ht : n ≤ m := by simpa using ht
      go_enter Tryd.func26, Tryd.ntmps26
      go_wp2_with fail
      refine (field_may true HM.out).mono ?_
      rintro e w1000 ⟨rfl, rfl⟩
      go_wp2_with fail
      refine (bits_Len64 _ n _ h2 H3.out HN.out).mono ?_
      rintro e w1000 ⟨rfl, rfl⟩
      go_wp2_with fail
      go_quiet ((go_at_call 29; exact Calls.quiet_of_same (field_mask _ g2 g3 rfl)))
      go_wp2_with fail
      go_ret2
      exact ⟨ret_int2 (set_codeI h0 H1.out h2 H3.out HM.out HF.out) rfl, (Ext.refl w).drewN _⟩
  · have HM := Lib.hid (Bool.not_eq_true _ ▸ hm)
    obtain ⟨rfl, rfl⟩ : 0 = p ∧ 2 = q := by unfold gset at hpq; rw [if_neg hm] at hpq; simpa using hpq
    clear hm hpq hn
    go_enter Tryd.func26, Tryd.ntmps26
    go_wp2_with fail
    refine (field_may false HM.out).mono ?_
    rintro e w1000 ⟨rfl, rfl⟩
    go_wp2_with fail
    go_ret2
    exact ⟨rfl, Ext.refl _⟩

end Go.Proofs.YtjdagameeopadaaDoor
