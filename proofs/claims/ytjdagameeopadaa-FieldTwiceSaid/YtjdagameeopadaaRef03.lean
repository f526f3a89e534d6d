/-
  commonageref03: bit, with, may, Get, fits, Set, All, Pack, Unpack, Same: each hands back what field's own plain function computes.
-/
import Derived.Test.YtjdagameeopadaaField4
namespace Go.Proofs.Ytjdagameeopadaa
open Go.RowKit

theorem flip {P : Program} {g : Nat} {args : Array Value} {w : World} {v : Ending} (h : Calls P g args w fun e w' => e = v ∧ w = w') : Calls P g args w fun e w' => e = v ∧ w' = w :=
  h.mono fun _ _ ⟨a, b⟩ => ⟨a, b.symm⟩

theorem bit_code {u i : Int} (h0 : 0 ≤ u) : (((u / 2 ^ i.toNat).tmod 2 == 1) : Bool) = u.toNat.testBit i.toNat := by
  obtain ⟨n, rfl⟩ := Int.eq_ofNat_of_zero_le h0
  rw [div_pow_cast, Int.toNat_natCast, Nat.testBit_eq_decide_div_mod_eq, Bool.eq_iff_iff, Int.tmod_eq_emod_of_nonneg (Int.natCast_nonneg _), beq_iff_eq, decide_eq_true_iff]
  omega
theorem xor_code {u i : Int} (h0 : 0 ≤ u) (hu : u < 18446744073709551616) (h1 : 0 ≤ i) (h2 : i < 64) : bits .xor .u64 u (IntKind.u64.wrap (2 ^ i.toNat)) = ((u.toNat ^^^ 2 ^ i.toNat : Nat) : Int) := by
  obtain ⟨n, rfl⟩ := Int.eq_ofNat_of_zero_le h0
  have hn : n < 2 ^ 64 := lt64 h0 hu
  have e : (2 : Nat) ^ 64 = 18446744073709551616 := by decide
  have hp : (2 : Nat) ^ i.toNat < 2 ^ 64 := Nat.pow_lt_pow_right (by decide) (by omega)
  have c : ((2 : Int) ^ i.toNat) = ((2 ^ i.toNat : Nat) : Int) := by simp
  have w1 : ((2 ^ i.toNat : Nat) : Int) % 18446744073709551616 = ((2 ^ i.toNat : Nat) : Int) := Int.emod_eq_of_lt (Int.natCast_nonneg _) (of64 hp).2
  rw [c, IntKind.wrap_u64, w1, u64_xor_nat _ _ (by omega) (by rw [e] at hp; exact hp), Int.toNat_natCast]

set_option maxHeartbeats 1000000 in
theorem ref03_bit {u i : Int} (b : Bool) {w : World} (h0 : 0 ≤ u) (h1 : 0 ≤ i) (h2 : i < 64) (hb : u.toNat.testBit i.toNat = b) :
    Calls Try.prog 35 #[.int .u64 u, .int .i64 i] w fun e w' => e = .returned (.bool b) ∧ w = w' := by
  have HB := Lib.hid hb; clear hb
  go_enter Try.func35, Try.ntmps35
  go_wp2_with fail
  go_ret
  exact ⟨ret_bool (by rw [← HB.out]; exact bit_code h0), rfl⟩

theorem fwith_same {u i : Nat} {b : Bool} (h : u.testBit i = b) : fwith u i b = u := by unfold fwith; rw [if_pos h]
theorem fwith_other {u i : Nat} {b c : Bool} (h : u.testBit i = c) (hc : c ≠ b) : fwith u i b = u ^^^ 2 ^ i := by unfold fwith; rw [if_neg (by rw [h]; exact hc)]

set_option maxHeartbeats 1000000 in
theorem ref03_with {u i : Int} (b : Bool) (r : Int) {w : World} (h0 : 0 ≤ u) (hu : u < 18446744073709551616) (h1 : 0 ≤ i) (h2 : i < 64) (hr : ((fwith u.toNat i.toNat b : Nat) : Int) = r) :
    Calls Try.prog 34 #[.int .u64 u, .int .i64 i, .bool b] w fun e w' => e = .returned (.int .u64 r) ∧ w = w' := by
  have HR := Lib.hid hr; have HU := Lib.hid hu; clear hr hu
  cases ht : u.toNat.testBit i.toNat <;> cases b
  all_goals
    have HT := Lib.hid ht; clear ht
    go_enter Try.func34, Try.ntmps34
    go_wp2_with fail
  · refine (ref03_bit false h0 h1 h2 HT.out).mono ?_
    rintro e w1000 ⟨rfl, rfl⟩
    go_wp2_with fail
    go_ret
    exact ⟨ret_int (by rw [← HR.out, fwith_same HT.out, Int.toNat_of_nonneg h0]), rfl⟩
  · refine (ref03_bit false h0 h1 h2 HT.out).mono ?_
    rintro e w1000 ⟨rfl, rfl⟩
    go_wp2_with fail
    go_ret
    exact ⟨ret_int (by rw [← HR.out, fwith_other HT.out (by decide)]; exact xor_code h0 HU.out h1 h2), rfl⟩
  · refine (ref03_bit true h0 h1 h2 HT.out).mono ?_
    rintro e w1000 ⟨rfl, rfl⟩
    go_wp2_with fail
    go_ret
    exact ⟨ret_int (by rw [← HR.out, fwith_other HT.out (by decide)]; exact xor_code h0 HU.out h1 h2), rfl⟩
  · refine (ref03_bit true h0 h1 h2 HT.out).mono ?_
    rintro e w1000 ⟨rfl, rfl⟩
    go_wp2_with fail
    go_ret
    exact ⟨ret_int (by rw [← HR.out, fwith_same HT.out, Int.toNat_of_nonneg h0]), rfl⟩

set_option maxHeartbeats 1000000 in
theorem ref03_may {f m : Int} (b : Bool) {w : World} (hb : mayB f m = b) : Calls Try.prog 33 #[.int .i64 f, .int .i64 m] w fun e w' => e = .returned (.bool b) ∧ w = w' := by
  have HB := Lib.hid hb; clear hb
  go_enter Try.func33, Try.ntmps33
  go_wp2_with fail
  all_goals go_ret
  all_goals refine ⟨ret_bool ?_, rfl⟩
  all_goals rw [← HB.out, Bool.eq_iff_iff, mayB_iff]
  all_goals simp
  all_goals omega

set_option maxHeartbeats 2000000 in
theorem ref03_Get {v f m : Int} (p q : Int) {w : World} (h0 : 0 ≤ v) (h1 : v < 18446744073709551616) (hpq : gget v f m = (p, q)) :
    Calls Try.prog 13 #[.int .u64 v, .int .i64 f, .int .i64 m] w fun e w' => e = .returned (.tuple #[.int .u64 p, .int .i64 q]) ∧ w = w' := by
  by_cases hm : mayB f m = true
  · have HM := Lib.hid hm
    obtain ⟨rfl, rfl⟩ : fgetI v f m = p ∧ 0 = q := by unfold gget at hpq; rw [if_pos hm] at hpq; simpa using hpq
    obtain ⟨a, b, rfl, rfl, b1, b2, b3⟩ := mayB_nat hm
    obtain ⟨n, rfl⟩ := Int.eq_ofNat_of_zero_le h0
    have HN := Lib.hid (lt64 h0 h1)
    clear hm hpq h1
    go_enter Try.func13, Try.ntmps13
    go_wp2_with fail
    refine (ref03_may true HM.out).mono ?_
    rintro e w1000 ⟨rfl, rfl⟩
    go_wp2_with fail
    go_loop [8, 9] (fun u i => ∃ k : Nat, k ≤ b ∧ i = .int .i64 k ∧ u = .int .u64 ((fget n a k : Nat) : Int)) (fun _ i => b - (intOf i).toNat)
    case atStart => exact ⟨0, Nat.zero_le _, rfl, by rw [fget_zero]; rfl⟩
    case round =>
      obtain ⟨k, hk, rfl, rfl⟩ := hrel
      by_cases hlt : k < b
      · have g64 := of64 (fget_64 (w := n) (f := a) (m := k) (by omega))
        have HST := Lib.hid (fget_step n a k)
        have HG2 := Lib.hid g64.2
        have g0 := g64.1
        clear g64
        generalize fget n a k = g at *
        obtain ⟨g', hg'⟩ : ∃ g', fget n a (k + 1) = g' := ⟨_, rfl⟩
        rw [hg'] at HST
        have HG' := Lib.hid hg'; clear hg'
        obtain ⟨t, ht⟩ : ∃ t, n.testBit (a + k) = t := ⟨_, rfl⟩
        rw [ht] at HST
        have HT := Lib.hid ht; clear ht
        go_wp2_with fail
        refine (ref03_bit t (by omega) (by omega) (by omega) (by rw [← HT.out]; rfl)).mono ?_
        rintro e w1000 ⟨rfl, rfl⟩
        go_wp2_with fail
        refine (ref03_with t g' g0 HG2.out (by omega) (by omega) (by rw [Int.toNat_natCast, Int.toNat_natCast, HST.out])).mono ?_
        rintro e w1000 ⟨rfl, rfl⟩
        go_wp2_with fail
        go_round
        case rel => exact ⟨k + 1, by omega, by go_num, by rw [HG'.out]⟩
        case measure => simp [intOf]; omega
      · obtain rfl : k = b := by omega
        go_wp2_with fail
        go_ret2
        exact ⟨ret_int2 rfl rfl, rfl⟩
  · have HM := Lib.hid (Bool.not_eq_true _ ▸ hm)
    obtain ⟨rfl, rfl⟩ : 0 = p ∧ 2 = q := by unfold gget at hpq; rw [if_neg hm] at hpq; simpa using hpq
    clear hm hpq
    go_enter Try.func13, Try.ntmps13
    go_wp2_with fail
    refine (ref03_may false HM.out).mono ?_
    rintro e w1000 ⟨rfl, rfl⟩
    go_wp2_with fail
    go_ret2
    exact ⟨rfl, rfl⟩

set_option maxHeartbeats 2000000 in
theorem ref03_fits {v m : Int} (b : Bool) {w : World} (h0 : 0 ≤ v) (h1 : v < 18446744073709551616) (hm1 : 0 ≤ m) (hm2 : m ≤ 64) (hb : fitsB v m = b) :
    Calls Try.prog 37 #[.int .u64 v, .int .i64 m] w fun e w' => e = .returned (.bool b) ∧ w = w' := by
  obtain ⟨n, rfl⟩ := Int.eq_ofNat_of_zero_le h0
  obtain ⟨c, rfl⟩ := Int.eq_ofNat_of_zero_le hm1
  have hf := fits_iff (m := c) (lt64 h0 h1)
  rw [Int.toNat_natCast] at hf
  unfold fitsB at hb
  rw [Int.toNat_natCast, Int.toNat_natCast] at hb
  have HF := Lib.hid hf; have HB := Lib.hid hb; clear hf hb h1
  have hc2 : c ≤ 64 := by omega
  go_enter Try.func37, Try.ntmps37
  go_wp2_with fail
  go_loop [5] (fun i => ∃ k : Nat, c ≤ k ∧ k ≤ 64 ∧ i = .int .i64 k ∧ Hid (∀ j, c ≤ j → j < k → n.testBit j = false)) (fun i => 64 - (intOf i).toNat)
  case atStart => exact ⟨c, Nat.le_refl _, hc2, rfl, fun j h1 h2 => absurd h2 (by omega)⟩
  case round =>
    obtain ⟨k, hck, hk, rfl, HJ⟩ := hrel
    by_cases hlt : k < 64
    · cases ht : n.testBit k
      · have HT := Lib.hid ht; clear ht
        go_wp2_with fail
        refine (ref03_bit false h0 (by omega) (by omega) (show ((n : Int)).toNat.testBit ((k : Int)).toNat = false from HT.out)).mono ?_
        rintro e w1000 ⟨rfl, rfl⟩
        go_wp2_with fail
        go_round
        case rel => exact ⟨k + 1, by omega, by omega, by go_num, fun j h1 h2 => by
          rcases Nat.lt_or_ge j k with c1 | c1
          · exact HJ j h1 c1
          · obtain rfl : j = k := by omega
            exact HT.out⟩
        case measure => simp [intOf]; omega
      · have HT := Lib.hid ht; clear ht
        go_wp2_with fail
        refine (ref03_bit true h0 (by omega) (by omega) (show ((n : Int)).toNat.testBit ((k : Int)).toNat = true from HT.out)).mono ?_
        rintro e w1000 ⟨rfl, rfl⟩
        go_wp2_with fail
        go_ret
        exact ⟨ret_bool (by rw [← HB.out, decide_eq_false]; intro c1; have := HF.out.1 c1 k hck hlt; rw [HT.out] at this; cases this), rfl⟩
    · obtain rfl : k = 64 := by omega
      go_wp2_with fail
      go_ret
      exact ⟨ret_bool (by rw [← HB.out, decide_eq_true]; exact HF.out.2 fun j h1 h2 => HJ j h1 h2), rfl⟩

set_option maxHeartbeats 2000000 in
theorem ref03_Set {u f m v : Int} (p q : Int) {w : World} (h0 : 0 ≤ u) (h1 : u < 18446744073709551616) (h2 : 0 ≤ v) (h3 : v < 18446744073709551616) (hpq : gset u f m v = (p, q)) :
    Calls Try.prog 15 #[.int .u64 u, .int .i64 f, .int .i64 m, .int .u64 v] w fun e w' => e = .returned (.tuple #[.int .u64 p, .int .i64 q]) ∧ w = w' := by
  by_cases hm : mayB f m = true
  · have HM := Lib.hid hm
    obtain ⟨a, b, rfl, rfl, b1, b2, b3⟩ := mayB_nat hm
    have H3 := Lib.hid h3
    clear h3
    cases hf : fitsB v b
    · obtain ⟨rfl, rfl⟩ : 0 = p ∧ 4 = q := by unfold gset at hpq; rw [if_pos hm, hf] at hpq; simpa using hpq
      have HF := Lib.hid hf
      clear hm hpq h1 hf
      go_enter Try.func15, Try.ntmps15
      go_wp2_with fail
      refine (ref03_may true HM.out).mono ?_
      rintro e w1000 ⟨rfl, rfl⟩
      go_wp2_with fail
      refine (ref03_fits false h2 H3.out (by omega) (by omega) HF.out).mono ?_
      rintro e w1000 ⟨rfl, rfl⟩
      go_wp2_with fail
      go_ret2
      exact ⟨rfl, rfl⟩
    · obtain ⟨rfl, rfl⟩ : fsetI u a b v = p ∧ 0 = q := by unfold gset at hpq; rw [if_pos hm, hf] at hpq; simpa using hpq
      have HF := Lib.hid hf
      obtain ⟨n, rfl⟩ := Int.eq_ofNat_of_zero_le h0
      obtain ⟨x, rfl⟩ := Int.eq_ofNat_of_zero_le h2
      have HN := Lib.hid (lt64 h0 h1)
      have hx : x < 2 ^ b := by unfold fitsB at hf; simpa using hf
      have HX := Lib.hid hx
      have HE := Lib.hid (show ((fset n a b (x % 2 ^ b) : Nat) : Int) = fsetI n a b x by unfold fsetI; rw [Nat.mod_eq_of_lt hx]; rfl)
      clear hm hpq h1 hf hx
      go_enter Try.func15, Try.ntmps15
      go_wp2_with fail
      refine (ref03_may true HM.out).mono ?_
      rintro e w1000 ⟨rfl, rfl⟩
      go_wp2_with fail
      refine (ref03_fits true h2 H3.out (by omega) (by omega) HF.out).mono ?_
      rintro e w1000 ⟨rfl, rfl⟩
      go_wp2_with fail
      go_loop [0, 10] (fun y i => ∃ k : Nat, k ≤ b ∧ i = .int .i64 k ∧ y = .int .u64 ((fset n a k (x % 2 ^ k) : Nat) : Int)) (fun _ i => b - (intOf i).toNat)
      case atStart => exact ⟨0, Nat.zero_le _, rfl, by rw [Nat.pow_zero, Nat.mod_one, fset_zero]⟩
      case round =>
        obtain ⟨k, hk, rfl, rfl⟩ := hrel
        by_cases hlt : k < b
        · have g64 := of64 (fset_64 (w := n) (f := a) (m := k) (v := x % 2 ^ k) HN.out (Nat.mod_lt _ (Nat.two_pow_pos k)) (by omega))
          have HST := Lib.hid (fset_step n a k x)
          have HG2 := Lib.hid g64.2
          have g0 := g64.1
          clear g64
          generalize fset n a k (x % 2 ^ k) = g at *
          obtain ⟨g', hg'⟩ : ∃ g', fset n a (k + 1) (x % 2 ^ (k + 1)) = g' := ⟨_, rfl⟩
          rw [hg'] at HST
          have HG' := Lib.hid hg'; clear hg'
          obtain ⟨t, ht⟩ : ∃ t, x.testBit k = t := ⟨_, rfl⟩
          rw [ht] at HST
          have HT := Lib.hid ht; clear ht
          go_wp2_with fail
          refine (ref03_bit t (by omega) (by omega) (by omega) (by rw [← HT.out]; rfl)).mono ?_
          rintro e w1000 ⟨rfl, rfl⟩
          go_wp2_with fail
          refine (ref03_with t g' g0 HG2.out (by omega) (by omega) (by rw [Int.toNat_natCast, ← HST.out]; rfl)).mono ?_
          rintro e w1000 ⟨rfl, rfl⟩
          go_wp2_with fail
          go_round
          case rel => exact ⟨k + 1, by omega, by go_num, by rw [HG'.out]⟩
          case measure => simp [intOf]; omega
        · obtain rfl : k = b := by omega
          go_wp2_with fail
          go_ret2
          exact ⟨ret_int2 HE.out rfl, rfl⟩
  · have HM := Lib.hid (Bool.not_eq_true _ ▸ hm)
    obtain ⟨rfl, rfl⟩ : 0 = p ∧ 2 = q := by unfold gset at hpq; rw [if_neg hm] at hpq; simpa using hpq
    clear hm hpq
    go_enter Try.func15, Try.ntmps15
    go_wp2_with fail
    refine (ref03_may false HM.out).mono ?_
    rintro e w1000 ⟨rfl, rfl⟩
    go_wp2_with fail
    go_ret2
    exact ⟨rfl, rfl⟩

end Go.Proofs.Ytjdagameeopadaa
