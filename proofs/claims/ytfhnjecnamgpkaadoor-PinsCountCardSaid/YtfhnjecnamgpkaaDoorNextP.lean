/-
  Plain Lean on the walk from bit to bit: the words that bits.Row's from hands on, and what their lowest bit says. No program is named here.
-/
import Derived.Test.YtfhnjecnamgpkaaDoorBitsP
import Derived.Lib.TrailingZeros
import Derived.Laws.BitsAllLaws
namespace Go.Proofs.YtfhnjecnamgpkaaDoor

/-- What has come when k rounds are over. -/
def upto {α : Type} (f : Nat → α) (k : Nat) : List α := (List.range k).map f
theorem upto_succ {α : Type} (f : Nat → α) (k : Nat) : upto f (k + 1) = upto f k ++ [f k] := by simp [upto, List.range_succ]
theorem upto_length {α : Type} (f : Nat → α) (k : Nat) : (upto f k).length = k := by simp [upto]
theorem upto_snoc {α : Type} {f : Nat → α} {pre : List α} {x : α} (h : pre ++ [x] = upto f (pre ++ [x]).length) : pre = upto f pre.length ∧ x = f pre.length := by
  rw [List.length_append, List.length_singleton, upto_succ] at h
  have h1 := List.append_inj h (by simp [upto_length])
  exact ⟨h1.1, by simpa using h1.2⟩

/-- Word k, turned, without what is ahead of bit i. -/
def wf (bs : List Bool) (is : Bool) (i k : Nat) : Nat := wsum (fun j => (bnth bs (64 * k + j) == is) && decide (i ≤ 64 * k + j)) 64
def turnOf (is : Bool) : Nat := if is then 0 else 18446744073709551615
def aheadOf (i k : Nat) : Nat := if k = i / 64 then 2 ^ (i % 64) - 1 else 0
theorem wf_lt (bs : List Bool) (is : Bool) (i k : Nat) : wf bs is i k < 18446744073709551616 := wsum_lt _ 64
theorem wf_bit (bs : List Bool) (is : Bool) (i k j : Nat) (hj : j < 64) : (wf bs is i k).testBit j = ((bnth bs (64 * k + j) == is) && decide (i ≤ 64 * k + j)) := by
  unfold wf; rw [wsum_bit]; simp [hj]
theorem turn_lt (is : Bool) : turnOf is < 18446744073709551616 := by cases is <;> decide
theorem ahead_lt (i k : Nat) : aheadOf i k < 18446744073709551616 := by
  unfold aheadOf
  have hp : 2 ^ (i % 64) < 2 ^ 64 := Nat.pow_lt_pow_right (by decide) (by omega)
  have e : (2 : Nat) ^ 64 = 18446744073709551616 := by decide
  split <;> omega
theorem ones_bit (j : Nat) (hj : j < 64) : (18446744073709551615 : Nat).testBit j = true := by
  have := Nat.testBit_two_pow_sub_one 64 j
  rw [show (2 : Nat) ^ 64 - 1 = 18446744073709551615 by decide] at this
  rw [this]; simp [hj]
theorem wf_code (bs : List Bool) (is : Bool) (i k : Nat) (hk : i / 64 ≤ k) : (wd bs k ^^^ turnOf is) &&& (18446744073709551615 - aheadOf i k) = wf bs is i k := by
  have ha := ahead_lt i k
  have e : (2 : Nat) ^ 64 = 18446744073709551616 := by decide
  have e2 : 18446744073709551615 - aheadOf i k = 2 ^ 64 - (aheadOf i k + 1) := by omega
  refine wsum_eq (n := 64) ?_ fun j hj => ?_
  · exact Nat.lt_of_le_of_lt Nat.and_le_left (Nat.xor_lt_two_pow (n := 64) (wd_lt bs k) (turn_lt is))
  · rw [Nat.testBit_and, Nat.testBit_xor, wd_bit _ _ _ hj, e2, Nat.testBit_two_pow_sub_succ (by exact ha)]
    have ht : (turnOf is).testBit j = !is := by
      cases is
      · exact ones_bit j hj
      · exact Nat.zero_testBit j
    have hd : (aheadOf i k).testBit j = !decide (i ≤ 64 * k + j) := by
      unfold aheadOf
      split
      · subst k
        rw [Nat.testBit_two_pow_sub_one, ← decide_not, decide_eq_decide]
        omega
      · rw [Nat.zero_testBit, decide_eq_true (by omega)]; rfl
    rw [ht, hd]
    simp only [hj, decide_true, Bool.true_and, Bool.not_not]
    cases bnth bs (64 * k + j) <;> cases is <;> rfl

theorem ctz_spec {x : Nat} (hx : x < 18446744073709551616) (h0 : x ≠ 0) : Lib.ctz 64 x < 64 ∧ x.testBit (Lib.ctz 64 x) = true ∧ ∀ j, j < Lib.ctz 64 x → x.testBit j = false := by
  have e : Lib.ctz 64 x = Lib.ctzFrom 64 x := by unfold Lib.ctz; rw [if_neg h0]
  obtain ⟨m, hm, hl⟩ := Lib.ctzFrom_spec 64 x (by omega) hx
  rw [e]
  generalize Lib.ctzFrom 64 x = c at *
  subst hm
  refine ⟨hl, ?_, fun j hj => ?_⟩
  · rw [Nat.testBit_two_pow_mul]; simp
  · rw [Nat.testBit_two_pow_mul]; simp; omega

/-- No bit of the kind from i on ahead of position m. -/
def NoHit (bs : List Bool) (is : Bool) (i m : Nat) : Prop := ∀ j : Nat, i ≤ j → j < m → j < bs.length → bnth bs j = !is
theorem bne_of {a b : Bool} (h : (a == b) = false) : a = !b := by cases a <;> cases b <;> simp_all
theorem NoHit.zero {bs : List Bool} {is : Bool} {i k : Nat} (h : NoHit bs is i (64 * k)) (hz : wf bs is i k = 0) : NoHit bs is i (64 * (k + 1)) := by
  intro j h1 h2 h3
  by_cases hk : j < 64 * k
  · exact h j h1 hk h3
  · have := wf_bit bs is i k (j - 64 * k) (by omega)
    rw [hz, Nat.zero_testBit, show 64 * k + (j - 64 * k) = j by omega, decide_eq_true h1, Bool.and_true] at this
    exact bne_of this.symm
theorem NoHit.hit {bs : List Bool} {is : Bool} {i k : Nat} (h : NoHit bs is i (64 * k)) (hz : wf bs is i k ≠ 0) :
    (64 * k + Lib.ctz 64 (wf bs is i k) < bs.length → IsNext bs i is ((64 * k + Lib.ctz 64 (wf bs is i k) : Nat) : Int) true) ∧
    (bs.length ≤ 64 * k + Lib.ctz 64 (wf bs is i k) → NoHit bs is i (64 * (k + 1))) := by
  obtain ⟨c1, c2, c3⟩ := ctz_spec (wf_lt bs is i k) hz
  generalize Lib.ctz 64 (wf bs is i k) = c at *
  rw [wf_bit _ _ _ _ _ c1, Bool.and_eq_true, decide_eq_true_eq] at c2
  have low : ∀ j : Nat, i ≤ j → j < 64 * k + c → j < bs.length → bnth bs j = !is := by
    intro j h1 h2 h3
    by_cases hk : j < 64 * k
    · exact h j h1 hk h3
    · have := c3 (j - 64 * k) (by omega)
      rw [wf_bit _ _ _ _ _ (by omega), show 64 * k + (j - 64 * k) = j by omega, decide_eq_true h1, Bool.and_true] at this
      exact bne_of this
  refine ⟨fun hl => .inl ⟨rfl, 64 * k + c, rfl, by omega, hl, by simpa using c2.1, fun j h1 h2 => low j (by omega) h2 (by omega)⟩, fun hl j h1 h2 h3 => low j h1 (by omega) h3⟩
theorem NoHit.none {bs : List Bool} {is : Bool} {i m : Nat} (h : NoHit bs is i m) (hm : bs.length ≤ m) : IsNext bs i is 0 false :=
  .inr ⟨rfl, rfl, fun j h1 h2 => h j (by omega) (by omega) h2⟩

end Go.Proofs.YtfhnjecnamgpkaaDoor
