/-
  Plans in plain Lean: where a tenant's slots lie. No program is named here.
-/
import Derived.Test.YteopbobhphghhaaConfP
namespace Go.Proofs.Yteopbobhphghhaa

theorem sumTo_succ (f : Nat → Int) (n : Nat) : sumTo f (n + 1) = sumTo f n + f n := rfl
theorem sumTo_up {f : Nat → Int} {n : Nat} (h : ∀ i, i < n → 1 ≤ f i) (a : Nat) : ∀ d, a + d ≤ n → sumTo f a + d ≤ sumTo f (a + d)
  | 0, _ => by simp
  | d + 1, hd => by
    have h1 := sumTo_up h a d (by omega)
    have h2 := h (a + d) (by omega)
    rw [← Nat.add_assoc, sumTo_succ]
    omega
theorem sumTo_lt {f : Nat → Int} {n a b : Nat} (h : ∀ i, i < n → 1 ≤ f i) (hab : a ≤ b) (hb : b ≤ n) : sumTo f a + ((b - a : Nat) : Int) ≤ sumTo f b := by
  have := sumTo_up h a (b - a) (by omega)
  rwa [show a + (b - a) = b by omega] at this
theorem sum_find {f : Nat → Int} {s : Int} (h0 : 0 ≤ s) : ∀ n, s < sumTo f n → ∃ k, k < n ∧ sumTo f k ≤ s ∧ s < sumTo f (k + 1)
  | 0, h => by simp [sumTo] at h; omega
  | n + 1, h => by
    rcases Int.lt_or_le s (sumTo f n) with c | c
    · obtain ⟨k, h1, h2, h3⟩ := sum_find h0 n c
      exact ⟨k, by omega, h2, h3⟩
    · exact ⟨n, by omega, c, h⟩
theorem sum_side {f : Nat → Int} {n k : Nat} {s : Int} (h : ∀ i, i < n → 1 ≤ f i) (hk : k < n) (h1 : sumTo f k ≤ s) (h2 : s < sumTo f (k + 1)) (i : Nat) (hi : i < n) : decide (sumTo f i ≤ s) = decide (i ≤ k) := by
  rcases Nat.lt_or_ge k i with c | c
  · have := sumTo_lt (a := k + 1) (b := i) h (by omega) (by omega)
    rw [decide_eq_false (by omega), decide_eq_false (by omega)]
  · have := sumTo_lt (a := i) (b := k) h c (by omega)
    rw [decide_eq_true (by omega), decide_eq_true c]

/-- The first slot of a class; its first page. -/
def sS (c : Conf) (t k : Nat) : Int := sumTo (slotsOf c t) k
def sG (c : Conf) (t k : Nat) : Int := sumTo (pagesOf c t) k
structure Part where
  size : Int
  first : Int
  many : Int
  page : Int
  per : Int
def partOf (c : Conf) (t k : Nat) : Part := ⟨nth c.cl k, sS c t k, slotsOf c t k, sG c t k, perOf c k⟩

/-- Slot s is of class k. -/
structure AtClass (c : Conf) (t : Nat) (s : Int) (k : Nat) : Prop where
  lt : k < c.cl.length
  lo : sS c t k ≤ s
  hi : s < sS c t (k + 1)
/-- Page p is of class k. -/
structure AtPage (c : Conf) (t : Nat) (p : Int) (k : Nat) : Prop where
  lt : k < c.cl.length
  lo : sG c t k ≤ p
  hi : p < sG c t (k + 1)
theorem atClass_find {c : Conf} {t : Nat} {s : Int} (h0 : 0 ≤ s) (h : s < sS c t c.cl.length) : ∃ k, AtClass c t s k := by
  obtain ⟨k, h1, h2, h3⟩ := sum_find h0 _ h
  exact ⟨k, h1, h2, h3⟩
theorem atPage_find {c : Conf} {t : Nat} {s : Int} (h0 : 0 ≤ s) (h : s < sG c t c.cl.length) : ∃ k, AtPage c t s k := by
  obtain ⟨k, h1, h2, h3⟩ := sum_find h0 _ h
  exact ⟨k, h1, h2, h3⟩
theorem KOk.slots1 {c : Conf} (h : KOk c) {t : Nat} (ht : t < c.ts.length) : ∀ i, i < c.cl.length → 1 ≤ slotsOf c t i := fun _ hi => (h.bounds ht hi).s1
theorem KOk.pages1 {c : Conf} (h : KOk c) {t : Nat} (ht : t < c.ts.length) : ∀ i, i < c.cl.length → 1 ≤ pagesOf c t i := fun _ hi => (h.bounds ht hi).pg1
theorem KOk.sS_le {c : Conf} (h : KOk c) {t k : Nat} (ht : t < c.ts.length) (hk : k ≤ c.cl.length) : (k : Int) ≤ sS c t k ∧ sS c t k ≤ k * 2048 := by
  have h1 := sumTo_lt (a := 0) (b := k) (h.slots1 ht) (Nat.zero_le _) hk
  have h2 := sumTo_bound (slotsOf c t) 2048 k fun i hi => ⟨by have := (h.bounds ht (k := i) (by omega)).s1; omega, (h.bounds ht (by omega)).s2048⟩
  unfold sS
  simp [sumTo] at h1
  omega
theorem KOk.sG_le {c : Conf} (h : KOk c) {t k : Nat} (ht : t < c.ts.length) (hk : k ≤ c.cl.length) : (k : Int) ≤ sG c t k ∧ sG c t k ≤ k * 2048 := by
  have h1 := sumTo_lt (a := 0) (b := k) (h.pages1 ht) (Nat.zero_le _) hk
  have h2 := sumTo_bound (pagesOf c t) 2048 k fun i hi => ⟨by have := (h.bounds ht (k := i) (by omega)).pg1; omega, (h.bounds ht (by omega)).pg2048⟩
  unfold sG
  simp [sumTo] at h1
  omega
theorem KOk.S_side {c : Conf} (h : KOk c) {t k : Nat} {s : Int} (ht : t < c.ts.length) (hk : AtClass c t s k) (i : Nat) (hi : i < c.cl.length) : decide (sS c t i ≤ s) = decide (i ≤ k) :=
  sum_side (h.slots1 ht) hk.lt hk.lo hk.hi i hi
theorem KOk.G_side {c : Conf} (h : KOk c) {t k : Nat} {s : Int} (ht : t < c.ts.length) (hk : AtPage c t s k) (i : Nat) (hi : i < c.cl.length) : decide (sG c t i ≤ s) = decide (i ≤ k) :=
  sum_side (h.pages1 ht) hk.lt hk.lo hk.hi i hi
theorem sG_words {c : Conf} (t : Nat) : ∀ k, sumTo (fun i => pagesOf c t i * c.page) k = sG c t k * c.page
  | 0 => by simp [sG, sumTo]
  | k + 1 => by rw [sumTo_succ, sG_words t k]; unfold sG; rw [sumTo_succ, Int.add_mul]

end Go.Proofs.Yteopbobhphghhaa
