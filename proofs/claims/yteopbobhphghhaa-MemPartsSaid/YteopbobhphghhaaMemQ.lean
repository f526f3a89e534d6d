/-
  The document's memory in plain Lean: regions of words when a word is turned, words that are zeroed one by one, all words. No program is named here.
-/
import Derived.Test.YteopbobhphghhaaMemP
namespace Go.Proofs.Yteopbobhphghhaa
open Go.RowKit

theorem nth_setL {xs : List Int} {i j : Nat} {v : Int} (h : i < xs.length) : nth (xs.set i v) j = if j = i then v else nth xs j := by
  unfold nth
  by_cases e : j = i
  · subst e; simp [h]
  · rw [if_neg e]
    simp [List.getD, List.getElem?_set, Ne.symm e]
theorem regionL_set {c : Conf} {ws : List Int} {t i : Nat} (x : Int) (h : KOk c) (ht : t < c.ts.length) (hl : ws.length = totalN c) (hi : i < wordsN c t) : regionL c (ws.set (baseN c t + i) x) t = (regionL c ws t).set i x := by
  have hin := h.region_in ht
  have l1 := regionL_len h ht hl
  have l2 := regionL_len (ws := ws.set (baseN c t + i) x) h ht (by rw [List.length_set]; exact hl)
  refine nth_ext (by rw [l2, List.length_set, l1]) fun j hj => ?_
  rw [l2] at hj
  rw [nth_regionL hj, nth_setL (by omega), nth_setL (by omega), nth_regionL hj]
  by_cases e : j = i
  · subst e; rw [if_pos rfl, if_pos rfl]
  · rw [if_neg (by omega), if_neg e]
theorem regionL_far {c : Conf} {ws : List Int} {t s i : Nat} (x : Int) (h : KOk c) (ht : t < c.ts.length) (hs : s < c.ts.length) (hne : s ≠ t) (hl : ws.length = totalN c) (hi : i < wordsN c t) : regionL c (ws.set (baseN c t + i) x) s = regionL c ws s := by
  have hin := h.region_in ht
  have hap := h.apart ht hs (Ne.symm hne)
  have l1 := regionL_len h hs hl
  have l2 := regionL_len (ws := ws.set (baseN c t + i) x) h hs (by rw [List.length_set]; exact hl)
  refine nth_ext (by rw [l2, l1]) fun j hj => ?_
  rw [l2] at hj
  rw [nth_regionL hj, nth_setL (by omega), nth_regionL hj, if_neg (by omega)]
theorem zeroL_succ {ws : List Int} {a n : Nat} (h : a + n < ws.length) : zeroL ws a (n + 1) = (zeroL ws a n).set (a + n) 0 := by
  have l1 := zeroL_len (ws := ws) (a := a) (n := n) (by omega)
  have l2 := zeroL_len (ws := ws) (a := a) (n := n + 1) (by omega)
  refine nth_ext (by rw [l2, List.length_set, l1]) fun j hj => ?_
  rw [nth_zeroL (by omega), nth_setL (by omega), nth_zeroL (by omega)]
  by_cases e : j = a + n
  · subst e; rw [if_pos rfl, if_pos ⟨by omega, by omega⟩]
  · rw [if_neg e]
    by_cases g : a ≤ j ∧ j < a + n
    · rw [if_pos g, if_pos ⟨g.1, by omega⟩]
    · rw [if_neg g, if_neg (by omega)]
theorem zeroL_zero (ws : List Int) (a : Nat) : zeroL ws a 0 = ws := by simp [zeroL]
theorem take_region {c : Conf} (ws : List Int) {t : Nat} (h : KOk c) (ht : t < c.ts.length) : ws.take (baseN c (t + 1)) = ws.take (baseN c t) ++ regionL c ws t := by
  rw [h.baseN_succ ht, List.take_add]; rfl
theorem take_total {c : Conf} {ws : List Int} (hl : ws.length = totalN c) : ws.take (baseN c c.ts.length) = ws := by
  rw [List.take_of_length_le]; rw [hl]; exact Nat.le_refl _
theorem replicate_region {c : Conf} {t : Nat} (h : KOk c) (ht : t < c.ts.length) : regionL c (List.replicate (totalN c) 0) t = List.replicate (wordsN c t) 0 := by
  have hin := h.region_in ht
  have l1 := regionL_len (ws := List.replicate (totalN c) 0) h ht (by simp)
  refine nth_ext (by rw [l1]; simp) fun j hj => ?_
  rw [l1] at hj
  rw [nth_regionL hj]
  simp [nth, List.getD, show baseN c t + j < totalN c by omega, hj]

end Go.Proofs.Yteopbobhphghhaa
