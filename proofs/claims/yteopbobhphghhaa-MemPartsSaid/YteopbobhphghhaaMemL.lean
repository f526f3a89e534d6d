/-
  Laws of a memory's words in plain Lean: what one region's stores leave of another; what is stored is loaded; zeroed in two parts. No program is named here.
-/
import Derived.Test.YteopbobhphghhaaMemW
import Derived.Test.YteopbobhphghhaaMemQ
namespace Go.Proofs.Yteopbobhphghhaa
open Go.RowKit

theorem storeR_no {c : Conf} {ws ws' : List Int} {t a x k : Int} (h : storeR c ws t a x = (ws', k)) (hk : k ≠ 0) : ws' = ws := by
  unfold storeR at h
  split at h
  · cases h; exact absurd rfl hk
  · cases h; rfl
theorem zeroR_no {c : Conf} {ws ws' : List Int} {t a n k : Int} (h : zeroR c ws t a n = (ws', k)) (hk : k ≠ 0) : ws' = ws := by
  unfold zeroR at h
  split at h
  · cases h; exact absurd rfl hk
  · cases h; rfl
theorem regionL_zero_far {c : Conf} {ws : List Int} {t s a n : Nat} (h : KOk c) (ht : t < c.ts.length) (hs : s < c.ts.length) (hne : s ≠ t) (hl : ws.length = totalN c) (ha : a + n ≤ wordsN c t) : regionL c (zeroL ws (baseN c t + a) n) s = regionL c ws s := by
  have hin := h.region_in ht
  have hap := h.apart ht hs (Ne.symm hne)
  have hz := zeroL_len (ws := ws) (a := baseN c t + a) (n := n) (by omega)
  have l1 := regionL_len h hs hl
  have l2 := regionL_len (ws := zeroL ws (baseN c t + a) n) h hs (by rw [hz]; exact hl)
  refine nth_ext (by rw [l2, l1]) fun j hj => ?_
  rw [l2] at hj
  rw [nth_regionL hj, nth_zeroL (by omega), nth_regionL hj, if_neg (by omega)]
theorem storeR_far {c : Conf} {ws ws' : List Int} {t s : Nat} {a x k : Int} (h : KOk c) (hs : s < c.ts.length) (hl : ws.length = totalN c) (hr : storeR c ws t a x = (ws', k)) (hne : s ≠ t ∨ k ≠ 0) : regionL c ws' s = regionL c ws s := by
  by_cases hk : k = 0
  · subst hk
    unfold storeR at hr
    split at hr
    · rename_i hp
      obtain ⟨i, j, m, e1, rfl, e3, hi, hj⟩ := partErr_ok hp
      obtain rfl : t = i := by omega
      cases hr
      simp only [Int.toNat_natCast]
      exact regionL_far x h hi hs (by omega) hl (by omega)
    · injection hr with e1; rw [← e1]
  · rw [storeR_no hr hk]
theorem zeroR_far {c : Conf} {ws ws' : List Int} {t s : Nat} {a n k : Int} (h : KOk c) (hs : s < c.ts.length) (hl : ws.length = totalN c) (hr : zeroR c ws t a n = (ws', k)) (hne : s ≠ t ∨ k ≠ 0) : regionL c ws' s = regionL c ws s := by
  by_cases hk : k = 0
  · subst hk
    unfold zeroR at hr
    split at hr
    · rename_i hp
      obtain ⟨i, j, m, e1, rfl, rfl, hi, hj⟩ := partErr_ok hp
      obtain rfl : t = i := by omega
      cases hr
      simp only [Int.toNat_natCast]
      exact regionL_zero_far h hi hs (by omega) hl hj
    · injection hr with e1; rw [← e1]
  · rw [zeroR_no hr hk]
theorem load_stored {c : Conf} {ws ws' : List Int} {t a x k : Int} (h : KOk c) (hl : ws.length = totalN c) (hr : storeR c ws t a x = (ws', k)) : ∃ v, loadR c ws' t a = (v, k) ∧ (k = 0 → v = x) := by
  unfold storeR at hr
  unfold loadR
  split at hr
  · rename_i hp
    cases hr
    rw [if_pos hp]
    obtain ⟨i, j, m, rfl, rfl, hm, hi, hj⟩ := partErr_ok hp
    have hin := h.region_in hi
    simp only [Int.toNat_natCast]
    exact ⟨_, rfl, fun _ => by rw [nth_set (by omega), if_pos rfl]⟩
  · rename_i hp
    cases hr
    rw [if_neg hp]
    exact ⟨0, rfl, fun e => absurd e hp⟩
theorem zeroR_len {c : Conf} {ws ws' : List Int} {t a n k : Int} (h : KOk c) (hl : ws.length = totalN c) (hr : zeroR c ws t a n = (ws', k)) : ws'.length = totalN c := by
  unfold zeroR at hr
  split at hr
  · rename_i hp
    obtain ⟨i, j, m, rfl, rfl, rfl, hi, hj⟩ := partErr_ok hp
    have hin := h.region_in hi
    cases hr
    simp only [Int.toNat_natCast]
    rw [zeroL_len (by omega)]; exact hl
  · cases hr; exact hl
/-- In two parts, cut anywhere. -/
theorem zeroL_parts {ws : List Int} {a n m : Nat} (hm : m ≤ n) (h : a + n ≤ ws.length) : zeroL (zeroL ws a m) (a + m) (n - m) = zeroL ws a n := by
  have l1 := zeroL_len (ws := ws) (a := a) (n := m) (by omega)
  have l2 := zeroL_len (ws := zeroL ws a m) (a := a + m) (n := n - m) (by omega)
  have l3 := zeroL_len (ws := ws) (a := a) (n := n) h
  refine nth_ext (by rw [l2, l1, l3]) fun i _ => ?_
  rw [nth_zeroL (by omega), nth_zeroL (by omega), nth_zeroL h]
  by_cases e : a ≤ i ∧ i < a + n
  · rw [if_pos e]
    by_cases e2 : a + m ≤ i
    · rw [if_pos ⟨e2, by omega⟩]
    · rw [if_neg (by omega), if_pos ⟨e.1, by omega⟩]
  · rw [if_neg e, if_neg (by omega), if_neg (by omega)]
theorem zeroR_ok {c : Conf} {i j n : Nat} {ws : List Int} (hi : i < c.ts.length) (hj : j + n ≤ wordsN c i) : zeroR c ws i j n = (zeroL ws (baseN c i + j) n, 0) := by
  unfold zeroR
  rw [if_pos (partErr_mk hi hj)]
  simp only [Int.toNat_natCast]
/-- A region's words when some of them were zeroed. -/
theorem nth_region_zero {c : Conf} {ws : List Int} {i j n x : Nat} (h : KOk c) (hi : i < c.ts.length) (hl : ws.length = totalN c) (hj : j + n ≤ wordsN c i) (hx : x < wordsN c i) : nth (regionL c (zeroL ws (baseN c i + j) n) i) x = if j ≤ x ∧ x < j + n then 0 else nth (regionL c ws i) x := by
  have hin := h.region_in hi
  rw [nth_regionL hx, nth_zeroL (by omega), nth_regionL hx]
  by_cases e : j ≤ x ∧ x < j + n
  · rw [if_pos e, if_pos (by omega)]
  · rw [if_neg e, if_neg (by omega)]
theorem partErr_in {c : Conf} {i : Nat} (hi : i < c.ts.length) (a n : Int) : partErr c i a n = 0 ∨ partErr c i a n = 4 := by
  unfold partErr
  rw [if_neg (by omega)]
  split
  · exact .inr rfl
  · exact .inl rfl
theorem regErr_zero {c : Conf} {ws : List Int} {t a n k : Int} (h : regErr c t = k) (hk : k ≠ 0) : k = 2 ∧ zeroR c ws t a n = (ws, 2) := by
  unfold regErr at h
  split at h
  · rename_i g
    have e : partErr c t a n = 2 := by unfold partErr; rw [if_pos g]
    exact ⟨h.symm, by unfold zeroR; rw [e, if_neg (by decide)]⟩
  · exact absurd h.symm hk

end Go.Proofs.Yteopbobhphghhaa
