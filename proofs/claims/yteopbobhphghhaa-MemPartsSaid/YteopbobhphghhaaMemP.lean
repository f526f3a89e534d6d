/-
  mem in plain Lean: where regions lie. No program is named here.
-/
import Derived.Test.YteopbobhphghhaaSlotP
namespace Go.Proofs.Yteopbobhphghhaa

/-- Where a region begins, how many words it has: as natural numbers. -/
def baseN (c : Conf) (t : Nat) : Nat := (baseOf c t).toNat
def wordsN (c : Conf) (t : Nat) : Nat := (wordsOf c t).toNat
def totalN (c : Conf) : Nat := baseN c c.ts.length

theorem KOk.baseN_eq {c : Conf} (h : KOk c) {t : Nat} (ht : t ≤ c.ts.length) : (baseN c t : Int) = baseOf c t := by
  have := (h.base_bound ht).1
  unfold baseN; omega
theorem KOk.wordsN_eq {c : Conf} (h : KOk c) {t : Nat} (ht : t < c.ts.length) : (wordsN c t : Int) = wordsOf c t := by
  have := (h.words_bound ht).1
  unfold wordsN; omega
theorem KOk.baseN_succ {c : Conf} (h : KOk c) {t : Nat} (ht : t < c.ts.length) : baseN c (t + 1) = baseN c t + wordsN c t := by
  have h1 := h.baseN_eq (t := t) (by omega)
  have h2 := h.baseN_eq (t := t + 1) ht
  have h3 := h.wordsN_eq ht
  have : baseOf c (t + 1) = baseOf c t + wordsOf c t := rfl
  omega
theorem baseN_zero (c : Conf) : baseN c 0 = 0 := rfl
theorem KOk.baseN_le {c : Conf} (h : KOk c) {t s : Nat} (hts : t ≤ s) (hs : s ≤ c.ts.length) : baseN c t ≤ baseN c s := by
  induction s with
  | zero => have : t = 0 := by omega
            subst this; exact Nat.le_refl _
  | succ n ih =>
    rcases Nat.lt_or_ge n t with g | g
    · have : t = n + 1 := by omega
      subst this; exact Nat.le_refl _
    · have := ih g (by omega)
      have := h.baseN_succ (t := n) (by omega)
      omega
theorem KOk.total_le {c : Conf} (h : KOk c) : totalN c ≤ 8388608 := by
  have := (h.base_bound (Nat.le_refl _)).2
  unfold totalN baseN; omega
theorem KOk.words_pos {c : Conf} (h : KOk c) {t : Nat} (ht : t < c.ts.length) : 1 ≤ wordsN c t := by
  have h1 := h.wordsN_eq ht
  have h2 := (h.sG_le ht (k := c.cl.length) (Nat.le_refl _)).1
  have h3 := h.cl.pos
  have h4 : wordsOf c t = sG c t c.cl.length * c.page := sG_words t _
  have bd := h.bounds ht (k := 0) h3
  have h5 := bd.c2; have h6 := bd.cpage
  have h7 := Int.mul_le_mul_of_nonneg_right (show (1 : Int) ≤ sG c t c.cl.length by omega) (show 0 ≤ c.page by omega)
  omega
theorem KOk.region_in {c : Conf} (h : KOk c) {t : Nat} (ht : t < c.ts.length) : baseN c t + wordsN c t ≤ totalN c := by
  have := h.baseN_succ ht
  have := h.baseN_le (t := t + 1) (s := c.ts.length) ht (Nat.le_refl _)
  unfold totalN; omega
theorem KOk.total_pos {c : Conf} (h : KOk c) : 1 ≤ totalN c := by
  have h1 := h.head.2.2.1
  have := h.words_pos (t := 0) (by omega)
  have := h.region_in (t := 0) (by omega)
  omega
/-- Regions do not meet. -/
theorem KOk.apart {c : Conf} (h : KOk c) {t s : Nat} (ht : t < c.ts.length) (hs : s < c.ts.length) (hne : t ≠ s) : baseN c t + wordsN c t ≤ baseN c s ∨ baseN c s + wordsN c s ≤ baseN c t := by
  have e1 := h.baseN_succ ht
  have e2 := h.baseN_succ hs
  rcases Nat.lt_or_ge t s with g | g
  · have := h.baseN_le (t := t + 1) (s := s) g (by omega); omega
  · have := h.baseN_le (t := s + 1) (s := t) (by omega) (by omega); omega

/-- The words of a region; words of which some are 0. -/
def regionL (c : Conf) (ws : List Int) (t : Nat) : List Int := (ws.drop (baseN c t)).take (wordsN c t)
def zeroL (ws : List Int) (a n : Nat) : List Int := ws.take a ++ List.replicate n 0 ++ ws.drop (a + n)
theorem zeroL_len {ws : List Int} {a n : Nat} (h : a + n ≤ ws.length) : (zeroL ws a n).length = ws.length := by
  unfold zeroL; simp; omega
theorem nth_zeroL {ws : List Int} {a n : Nat} (h : a + n ≤ ws.length) (i : Nat) : nth (zeroL ws a n) i = if a ≤ i ∧ i < a + n then 0 else nth ws i := by
  unfold zeroL nth
  simp only [List.getD]
  rcases Nat.lt_or_ge i a with h1 | h1
  · rw [if_neg (by omega), List.append_assoc, List.getElem?_append_left (by simp; omega), List.getElem?_take]
    simp [h1]
  · rw [List.append_assoc, List.getElem?_append_right (by simp; omega)]
    have e : (ws.take a).length = a := by simp; omega
    rw [e]
    rcases Nat.lt_or_ge i (a + n) with h2 | h2
    · rw [if_pos ⟨h1, h2⟩, List.getElem?_append_left (by simp; omega)]
      simp [List.getElem?_replicate, show i - a < n by omega]
    · rw [if_neg (by omega), List.getElem?_append_right (by simp; omega)]
      simp [show a + n + (i - a - n) = i by omega]
theorem regionL_len {c : Conf} {ws : List Int} {t : Nat} (h : KOk c) (ht : t < c.ts.length) (hl : ws.length = totalN c) : (regionL c ws t).length = wordsN c t := by
  have := h.region_in ht
  unfold regionL; simp; omega
theorem nth_regionL {c : Conf} {ws : List Int} {t i : Nat} (hi : i < wordsN c t) : nth (regionL c ws t) i = nth ws (baseN c t + i) := by
  unfold regionL nth
  simp [List.getD, List.getElem?_take, hi]

end Go.Proofs.Yteopbobhphghhaa
