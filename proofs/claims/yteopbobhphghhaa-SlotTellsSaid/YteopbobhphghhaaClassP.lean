/-
  Size classes in plain Lean: what class.Check, Of, Round, Waste and the document's answers compute. No program is named here.
-/
import Derived.Test.YteopbobhphghhaaBase
namespace Go.Proofs.Yteopbobhphghhaa

def ccheckLoop : Int → List Int → Int
  | _, [] => 0
  | last, x :: r => if x ≤ last then 2 else ccheckLoop x r

/-- class.Check -/
def ccheck (xs : List Int) : Int :=
  if xs.length < 1 ∨ 8 < xs.length ∨ 64 < nth xs (xs.length - 1) then 2 else ccheckLoop 1 xs

theorem ccheckLoop_01 (xs : List Int) : ∀ q, ccheckLoop q xs = 0 ∨ ccheckLoop q xs = 2 := by
  induction xs with
  | nil => intro q; exact .inl rfl
  | cons x r ih => intro q; unfold ccheckLoop; split; exact .inr rfl; exact ih x

theorem ccheck_01 (xs : List Int) : ccheck xs = 0 ∨ ccheck xs = 2 := by
  unfold ccheck; split; exact .inr rfl; exact ccheckLoop_01 _ _

theorem ccheckLoop_ok (xs : List Int) : ∀ q, ccheckLoop q xs = 0 → (∀ i, i < xs.length → q < nth xs i) ∧ ∀ i j, i < j → j < xs.length → nth xs i < nth xs j := by
  induction xs with
  | nil => intro q _; exact ⟨fun i h => absurd h (Nat.not_lt_zero _), fun i j _ h => absurd h (Nat.not_lt_zero _)⟩
  | cons x r ih =>
    intro q h
    unfold ccheckLoop at h
    split at h
    · cases h
    · rename_i hq
      obtain ⟨h1, h2⟩ := ih x h
      constructor
      · intro i hi
        cases i with
        | zero => rw [nth_cons_zero]; omega
        | succ i => rw [nth_cons_succ]; have := h1 i (by simpa using hi); omega
      · intro i j hij hj
        cases j with
        | zero => omega
        | succ j =>
          cases i with
          | zero => rw [nth_cons_zero, nth_cons_succ]; exact h1 j (by simpa using hj)
          | succ i => rw [nth_cons_succ, nth_cons_succ]; exact h2 i j (by omega) (by simpa using hj)

/-- What a list of classes that may be is. -/
structure COk (xs : List Int) : Prop where
  pos : 1 ≤ xs.length
  most : xs.length ≤ 8
  least : ∀ i, i < xs.length → 2 ≤ nth xs i
  top : ∀ i, i < xs.length → nth xs i ≤ 64
  inc : ∀ i j, i < j → j < xs.length → nth xs i < nth xs j

theorem ccheck_ok {xs : List Int} (h : ccheck xs = 0) : COk xs := by
  unfold ccheck at h
  split at h
  · cases h
  · rename_i hn
    obtain ⟨h1, h2⟩ := ccheckLoop_ok xs 1 h
    have hl : nth xs (xs.length - 1) ≤ 64 := by omega
    refine ⟨by omega, by omega, fun i hi => by have := h1 i hi; omega, fun i hi => ?_, h2⟩
    by_cases he : i = xs.length - 1
    · rw [he]; exact hl
    · have := h2 i (xs.length - 1) (by omega) (by omega); omega

theorem ccheckLoop_mk (xs : List Int) : ∀ q, (∀ i, i < xs.length → q < nth xs i) → (∀ i j, i < j → j < xs.length → nth xs i < nth xs j) → ccheckLoop q xs = 0 := by
  induction xs with
  | nil => intro _ _ _; rfl
  | cons x r ih =>
    intro q h1 h2
    have h0 := h1 0 (by simp)
    rw [nth_cons_zero] at h0
    rw [ccheckLoop, if_neg (by omega)]
    refine ih x (fun i hi => ?_) (fun i j hij hj => ?_)
    · have := h2 0 (i + 1) (by omega) (by simpa using hi); rwa [nth_cons_zero, nth_cons_succ] at this
    · have := h2 (i + 1) (j + 1) (by omega) (by simpa using hj); rwa [nth_cons_succ, nth_cons_succ] at this

theorem ccheck_mk {xs : List Int} (h : COk xs) : ccheck xs = 0 := by
  unfold ccheck
  rw [if_neg (by have := h.pos; have := h.most; have := h.top (xs.length - 1) (by omega); omega)]
  exact ccheckLoop_mk xs 1 (fun i hi => by have := h.least i hi; omega) h.inc

theorem ccheck_iff (xs : List Int) : ccheck xs = 0 ↔ COk xs := ⟨ccheck_ok, ccheck_mk⟩

/-- How many of the first classes are below a number of words. -/
def below (xs : List Int) (w : Int) : Nat := (xs.takeWhile (· < w)).length

theorem below_le (xs : List Int) (w : Int) : below xs w ≤ xs.length := by
  unfold below; induction xs with
  | nil => simp
  | cons x r ih => simp only [List.takeWhile_cons]; split <;> simp <;> omega

theorem below_lt (xs : List Int) (w : Int) : ∀ i, i < below xs w → nth xs i < w := by
  unfold below; induction xs with
  | nil => intro i h; simp at h
  | cons x r ih =>
    intro i h
    rw [List.takeWhile_cons] at h
    split at h
    · cases i with
      | zero => simp_all [nth]
      | succ i => rw [nth_cons_succ]; exact ih i (by simpa using h)
    · simp at h

theorem below_at (xs : List Int) (w : Int) (h : below xs w < xs.length) : w ≤ nth xs (below xs w) := by
  unfold below at *; induction xs with
  | nil => simp at h
  | cons x r ih =>
    by_cases hx : x < w
    · have hd : decide (x < w) = true := by simpa using hx
      simp only [List.takeWhile_cons, hd, if_true, List.length_cons] at h ⊢
      rw [nth_cons_succ]; exact ih (by omega)
    · have hd : decide (x < w) = false := by simpa using hx
      simp only [List.takeWhile_cons, hd, Bool.false_eq_true, if_false, List.length_nil]
      rw [nth_cons_zero]; omega

/-- There is one place where a rising row passes a number. -/
theorem below_uniq {xs : List Int} {w : Int} {r : Nat} (hr : r ≤ xs.length) (h1 : ∀ i, i < r → nth xs i < w) (h2 : r < xs.length → w ≤ nth xs r) : r = below xs w := by
  have a := below_le xs w
  have b := below_lt xs w
  have c := below_at xs w
  rcases Nat.lt_trichotomy r (below xs w) with h | h | h
  · have := h2 (by omega); have := b r h; omega
  · exact h
  · have := h1 _ h; have := c (by omega); omega

/-- class.Of -/
def cof (xs : List Int) (w : Int) : Int × Int :=
  if ccheck xs ≠ 0 then (0, ccheck xs) else if below xs w = xs.length ∨ w < 1 then (0, 50) else (below xs w, 0)
/-- class.Round -/
def cround (xs : List Int) (w : Int) : Int × Int :=
  if (cof xs w).2 ≠ 0 then (0, (cof xs w).2) else (nth xs (cof xs w).1.toNat, 0)
/-- class.Waste -/
def cwaste (xs : List Int) (w : Int) : Int × Int :=
  if (cround xs w).2 ≠ 0 then (0, (cround xs w).2) else ((cround xs w).1 - w, 0)

/-! ### The document's answer -/
theorem ccheck_bad {xs : List Int} {k : Nat} (hk : k < xs.length) (h : nth xs k < 2 ∨ 64 < nth xs k ∨ 0 < k ∧ nth xs k ≤ nth xs (k - 1)) : ccheck xs = 2 := by
  rcases ccheck_01 xs with h0 | h0
  · have ho := ccheck_ok h0
    have a := ho.least k hk
    have b := ho.top k hk
    rcases h with h | h | ⟨h1, h2⟩
    · omega
    · omega
    · have := ho.inc (k - 1) k (by omega) hk; omega
  · exact h0

theorem ccheck_good {xs : List Int} (h1 : 1 ≤ xs.length) (h8 : xs.length ≤ 8) (h : ∀ k, k < xs.length → 2 ≤ nth xs k ∧ nth xs k ≤ 64 ∧ (0 < k → nth xs (k - 1) < nth xs k)) : ccheck xs = 0 := by
  refine ccheck_mk ⟨h1, h8, fun i hi => (h i hi).1, fun i hi => (h i hi).2.1, ?_⟩
  intro i j hij
  induction j with
  | zero => omega
  | succ j ih =>
    intro hj
    have := (h (j + 1) hj).2.2 (by omega)
    simp only [Nat.add_sub_cancel] at this
    rcases Nat.lt_or_ge i j with h' | h'
    · have := ih h' (by omega); omega
    · obtain rfl : i = j := by omega
      exact this

theorem ccheck_len {xs : List Int} (h : xs.length < 1 ∨ 8 < xs.length) : ccheck xs = 2 := by unfold ccheck; rw [if_pos (by omega)]

end Go.Proofs.Yteopbobhphghhaa
