/-
  Plain laws on words as rows of bits: a field's value, a word with a value in a field, bit by bit and at once. No program is named here.
-/
import Derived.Laws.BitsAllLaws
import Derived.Test.YtjdagameeopadaaDoorBase
namespace Go.Proofs.YtjdagameeopadaaDoor

def W64 : Nat := 18446744073709551616
theorem W64_eq : W64 = 2 ^ 64 := by decide

def fget (w f m : Nat) : Nat := w / 2 ^ f % 2 ^ m
def fset (w f m v : Nat) : Nat := 2 ^ f * (2 ^ m * (w / 2 ^ (f + m)) + v) + w % 2 ^ f
def fwith (w i : Nat) (b : Bool) : Nat := if w.testBit i = b then w else w ^^^ 2 ^ i

theorem fget_bit (w f m j : Nat) : (fget w f m).testBit j = (decide (j < m) && w.testBit (f + j)) := by
  unfold fget
  rw [Nat.testBit_mod_two_pow, Nat.testBit_div_two_pow, Nat.add_comm]

theorem fset_bit {w f m v : Nat} (hv : v < 2 ^ m) (j : Nat) : (fset w f m v).testBit j = if j < f then w.testBit j else if j < f + m then v.testBit (j - f) else w.testBit j := by
  unfold fset
  rw [Nat.testBit_two_pow_mul_add _ (Nat.mod_lt _ (Nat.two_pow_pos f))]
  by_cases h : j < f
  · rw [if_pos h, if_pos h, Nat.testBit_mod_two_pow]; simp [h]
  · rw [if_neg h, if_neg h, Nat.testBit_two_pow_mul_add _ hv]
    by_cases h2 : j < f + m
    · rw [if_pos (by omega), if_pos h2]
    · rw [if_neg (by omega), if_neg h2, Nat.testBit_div_two_pow]
      congr 1; omega

theorem fwith_bit (w i : Nat) (b : Bool) (j : Nat) : (fwith w i b).testBit j = if j = i then b else w.testBit j := by
  unfold fwith
  by_cases h : w.testBit i = b
  · rw [if_pos h]
    by_cases hj : j = i
    · rw [if_pos hj, hj, h]
    · rw [if_neg hj]
  · rw [if_neg h, Nat.testBit_xor, Nat.testBit_two_pow]
    by_cases hj : j = i
    · subst hj
      rw [if_pos rfl]
      cases hb : w.testBit j <;> cases b <;> simp_all
    · have hij : ¬ i = j := fun e => hj e.symm
      rw [if_neg hj]
      simp [hij]

theorem fwith_lt {w i : Nat} (b : Bool) (hw : w < 2 ^ 64) (hi : i < 64) : fwith w i b < 2 ^ 64 := by
  refine Nat.lt_pow_two_of_testBit _ fun j hj => ?_
  rw [fwith_bit, if_neg (by omega)]
  exact Nat.testBit_lt_two_pow (Nat.lt_of_lt_of_le hw (Nat.pow_le_pow_right (by decide) hj))

theorem bit_high {w j : Nat} (hw : w < 2 ^ 64) (hj : 64 ≤ j) : w.testBit j = false :=
  Nat.testBit_lt_two_pow (Nat.lt_of_lt_of_le hw (Nat.pow_le_pow_right (by decide) hj))
theorem bit_over {w m j : Nat} (hw : w < 2 ^ m) (hj : m ≤ j) : w.testBit j = false :=
  Nat.testBit_lt_two_pow (Nat.lt_of_lt_of_le hw (Nat.pow_le_pow_right (by decide) hj))

theorem fget_lt (w f m : Nat) : fget w f m < 2 ^ m := Nat.mod_lt _ (Nat.two_pow_pos m)
theorem fget_64 {w f m : Nat} (hm : m ≤ 64) : fget w f m < 2 ^ 64 := Nat.lt_of_lt_of_le (fget_lt w f m) (Nat.pow_le_pow_right (by decide) hm)
theorem fset_64 {w f m v : Nat} (hw : w < 2 ^ 64) (hv : v < 2 ^ m) (h : f + m ≤ 64) : fset w f m v < 2 ^ 64 := by
  refine Nat.lt_pow_two_of_testBit _ fun j hj => ?_
  rw [fset_bit hv, if_neg (by omega), if_neg (by omega)]
  exact bit_high hw hj

/-! ### Bit by bit -/
theorem fget_zero (w f : Nat) : fget w f 0 = 0 := by unfold fget; rw [Nat.pow_zero, Nat.mod_one]
theorem fget_step (w f k : Nat) : fwith (fget w f k) k (w.testBit (f + k)) = fget w f (k + 1) := by
  refine Nat.eq_of_testBit_eq fun j => ?_
  rw [fwith_bit, fget_bit, fget_bit]
  by_cases h : j = k
  · subst h; simp
  · rw [if_neg h]
    congr 1
    rw [decide_eq_decide]; omega
theorem fset_zero (w f : Nat) : fset w f 0 0 = w := by
  refine Nat.eq_of_testBit_eq fun j => ?_
  rw [fset_bit (by decide)]
  by_cases h : j < f
  · rw [if_pos h]
  · rw [if_neg h, if_neg (by omega)]
theorem fset_step (w f k v : Nat) : fwith (fset w f k (v % 2 ^ k)) (f + k) (v.testBit k) = fset w f (k + 1) (v % 2 ^ (k + 1)) := by
  refine Nat.eq_of_testBit_eq fun j => ?_
  rw [fwith_bit, fset_bit (Nat.mod_lt _ (Nat.two_pow_pos k)), fset_bit (Nat.mod_lt _ (Nat.two_pow_pos (k + 1)))]
  by_cases h : j = f + k
  · subst h
    rw [if_pos rfl, if_neg (by omega), if_pos (by omega), Nat.testBit_mod_two_pow]
    simp
  · rw [if_neg h]
    by_cases h1 : j < f
    · rw [if_pos h1, if_pos h1]
    · rw [if_neg h1, if_neg h1]
      by_cases h2 : j < f + k
      · rw [if_pos h2, if_pos (by omega), Nat.testBit_mod_two_pow, Nat.testBit_mod_two_pow]
        congr 1
        rw [decide_eq_decide]; omega
      · rw [if_neg h2, if_neg (by omega)]

/-! ### Shifts and masks at once -/
theorem mask_eq {m : Nat} (h : m ≤ 64) : (2 ^ 64 - 1) / 2 ^ (64 - m) = 2 ^ m - 1 := by
  refine Nat.eq_of_testBit_eq fun j => ?_
  rw [Nat.testBit_div_two_pow, Nat.testBit_two_pow_sub_one, Nat.testBit_two_pow_sub_one, decide_eq_decide]
  omega
theorem get_code {w f m : Nat} (h : m ≤ 64) : (w / 2 ^ f) &&& ((2 ^ 64 - 1) / 2 ^ (64 - m)) = fget w f m := by
  rw [mask_eq h, Nat.and_two_pow_sub_one_eq_mod]; rfl
theorem mask_lt {m f : Nat} (h : f + m ≤ 64) : (2 ^ m - 1) * 2 ^ f < 2 ^ 64 := by
  have h1 : (2 ^ m - 1) * 2 ^ f < 2 ^ m * 2 ^ f := Nat.mul_lt_mul_of_pos_right (by have := Nat.two_pow_pos m; omega) (Nat.two_pow_pos f)
  rw [← Nat.pow_add] at h1
  exact Nat.lt_of_lt_of_le h1 (Nat.pow_le_pow_right (by decide) (by omega))
theorem val_lt {m f v : Nat} (h : f + m ≤ 64) (hv : v < 2 ^ m) : v * 2 ^ f < 2 ^ 64 := by
  have h1 : v * 2 ^ f < 2 ^ m * 2 ^ f := Nat.mul_lt_mul_of_pos_right hv (Nat.two_pow_pos f)
  rw [← Nat.pow_add] at h1
  exact Nat.lt_of_lt_of_le h1 (Nat.pow_le_pow_right (by decide) (by omega))
theorem set_code {w f m v : Nat} (hw : w < 2 ^ 64) (h : f + m ≤ 64) (hv : v < 2 ^ m) :
    (w &&& (2 ^ 64 - ((2 ^ m - 1) * 2 ^ f + 1))) ||| v * 2 ^ f = fset w f m v := by
  refine Nat.eq_of_testBit_eq fun j => ?_
  rw [fset_bit hv, Nat.testBit_or, Nat.testBit_and, Nat.testBit_two_pow_sub_succ (mask_lt h), Nat.testBit_mul_two_pow, Nat.testBit_mul_two_pow, Nat.testBit_two_pow_sub_one]
  by_cases h1 : j < f
  · rw [if_pos h1]
    have : ¬ f ≤ j := by omega
    have h3 : j < 64 := by omega
    simp [this, h3]
  · rw [if_neg h1]
    have h2 : f ≤ j := by omega
    by_cases h3 : j < f + m
    · rw [if_pos h3]
      have h4 : j - f < m := by omega
      simp [h2, h4]
    · rw [if_neg h3]
      have h4 : ¬ j - f < m := by omega
      rw [bit_over hv (by omega)]
      by_cases h5 : j < 64
      · simp [h2, h4, h5]
      · rw [bit_high hw (by omega)]; simp

/-! ### Fields one by one, and together -/
theorem fget_fset {w f m v : Nat} (hv : v < 2 ^ m) : fget (fset w f m v) f m = v := by
  refine Nat.eq_of_testBit_eq fun j => ?_
  rw [fget_bit, fset_bit hv]
  by_cases h : j < m
  · rw [if_neg (by omega), if_pos (by omega), Nat.add_sub_cancel_left]; simp [h]
  · rw [bit_over (j := j) hv (by omega)]; simp [h]
theorem fget_apart {w f m v g n : Nat} (hv : v < 2 ^ m) (h : f + m ≤ g ∨ g + n ≤ f) : fget (fset w f m v) g n = fget w g n := by
  refine Nat.eq_of_testBit_eq fun j => ?_
  rw [fget_bit, fget_bit, fset_bit hv]
  by_cases hj : j < n
  · by_cases h1 : g + j < f
    · rw [if_pos h1]
    · rw [if_neg h1, if_neg (by omega)]
  · simp [hj]
theorem fset_twice {w f m v u : Nat} (hv : v < 2 ^ m) (hu : u < 2 ^ m) : fset (fset w f m v) f m u = fset w f m u := by
  refine Nat.eq_of_testBit_eq fun j => ?_
  rw [fset_bit hu, fset_bit hu, fset_bit hv]
  by_cases h1 : j < f
  · simp [h1]
  · by_cases h2 : j < f + m <;> simp [h1, h2]
theorem fset_swap {w f m v g n u : Nat} (hv : v < 2 ^ m) (hu : u < 2 ^ n) (h : f + m ≤ g ∨ g + n ≤ f) : fset (fset w f m v) g n u = fset (fset w g n u) f m v := by
  refine Nat.eq_of_testBit_eq fun j => ?_
  rw [fset_bit hu, fset_bit hv, fset_bit hv, fset_bit hu]
  by_cases h1 : j < f <;> by_cases h2 : j < f + m <;> by_cases h3 : j < g <;> by_cases h4 : j < g + n <;> simp [h1, h2, h3, h4] <;> omega
theorem fset_top {w f m v : Nat} (hw : w < 2 ^ f) : fset w f m v = w + 2 ^ f * v := by
  unfold fset
  rw [Nat.div_eq_of_lt (Nat.lt_of_lt_of_le hw (Nat.pow_le_pow_right (by decide) (by omega))), Nat.mod_eq_of_lt hw]
  rw [Nat.mul_zero, Nat.zero_add, Nat.add_comm]

/-! ### All bits -/
theorem fits_iff {v m : Nat} (hv : v < 2 ^ 64) : v < 2 ^ m ↔ ∀ i, m ≤ i → i < 64 → v.testBit i = false := by
  constructor
  · intro h i hi _; exact bit_over h hi
  · intro h
    refine Nat.lt_pow_two_of_testBit _ fun i hi => ?_
    by_cases h6 : i < 64
    · exact h i hi h6
    · exact bit_high hv (by omega)

end Go.Proofs.YtjdagameeopadaaDoor
