/-
  Plain laws on configurations: one tenant's quota made greater. No program is named here.
-/
import Derived.Test.YtcnaabkimgkpbaaLaw06P
namespace Go.Proofs.Ytcnaabkimgkpbaa

def tenQ (t : Ten) (q : Int) : Ten := { t with q := q }
/-- The same configuration, with another quota of tenant i. -/
def withQuota (c : Conf) (i : Nat) (q : Int) : Conf := { c with ts := c.ts.set i (tenQ (tnth c.ts i) q) }

theorem tnth_set {ts : List Ten} {i : Nat} (hi : i < ts.length) (x : Ten) (j : Nat) : tnth (ts.set i x) j = if i = j then x else tnth ts j := by
  unfold tnth
  rw [List.getD_eq_getElem?_getD, List.getElem?_set]
  by_cases h : i = j
  · subst h; simp [hi]
  · simp [h]
theorem withQuota_len (c : Conf) (i : Nat) (q : Int) : (withQuota c i q).ts.length = c.ts.length := by unfold withQuota; simp
theorem withQuota_other {c : Conf} {i : Nat} (hi : i < c.ts.length) (q : Int) {j : Nat} (h : i ≠ j) : tnth (withQuota c i q).ts j = tnth c.ts j := by
  show tnth (c.ts.set i _) j = _
  rw [tnth_set hi, if_neg h]
theorem withQuota_own {c : Conf} {i : Nat} (hi : i < c.ts.length) (q : Int) : tnth (withQuota c i q).ts i = tenQ (tnth c.ts i) q := by
  show tnth (c.ts.set i _) i = _
  rw [tnth_set hi, if_pos rfl]

theorem withQuota_words_other {c : Conf} {i : Nat} (hi : i < c.ts.length) (q : Int) {j : Nat} (h : i ≠ j) : wordsOf (withQuota c i q) j = wordsOf c j := by
  unfold wordsOf
  refine sumTo_congr _ fun k _ => ?_
  unfold pagesOf slotsOf
  rw [withQuota_other hi q h]
  rfl
theorem withQuota_slots {c : Conf} {i : Nat} (hi : i < c.ts.length) {q : Int} (hq : (tnth c.ts i).q ≤ q) {k : Nat} (h : KOk c) (hk : k < c.cl.length) : slotsOf c i k ≤ slotsOf (withQuota c i q) i k := by
  have b := h.bounds hi hk
  unfold slotsOf
  rw [withQuota_own hi q]
  exact Int.ediv_le_ediv (by have := b.c2; show 0 < nth c.cl k; omega) hq
theorem withQuota_pages {c : Conf} {i : Nat} (hi : i < c.ts.length) {q : Int} (hq : (tnth c.ts i).q ≤ q) {k : Nat} (h : KOk c) (hk : k < c.cl.length) : pagesOf c i k ≤ pagesOf (withQuota c i q) i k := by
  have b := h.bounds hi hk
  have := withQuota_slots hi hq h hk
  show (slotsOf c i k + perOf c k - 1) / perOf c k ≤ (slotsOf (withQuota c i q) i k + perOf c k - 1) / perOf c k
  exact Int.ediv_le_ediv (by have := b.per1; omega) (by omega)
theorem withQuota_words {c : Conf} {i : Nat} (hi : i < c.ts.length) {q : Int} (hq : (tnth c.ts i).q ≤ q) (h : KOk c) : wordsOf c i ≤ wordsOf (withQuota c i q) i := by
  unfold wordsOf
  refine sumTo_le _ fun k hk => ?_
  have b := h.bounds hi hk
  exact Int.mul_le_mul_of_nonneg_right (withQuota_pages hi hq h hk) (by have := b.c2; have := b.cpage; show 0 ≤ c.page; omega)
/-- What ConfMore asks of each tenant's words. -/
theorem withQuota_all {c : Conf} {i : Nat} (hi : i < c.ts.length) {q : Int} (hq : (tnth c.ts i).q ≤ q) (h : KOk c) (j : Nat) :
    wordsOf c j ≤ wordsOf (withQuota c i q) j ∧ (i ≠ j → wordsOf c j = wordsOf (withQuota c i q) j) := by
  by_cases e : i = j
  · subst e; exact ⟨withQuota_words hi hq h, fun e => absurd rfl e⟩
  · rw [withQuota_words_other hi q e]; exact ⟨Int.le_refl _, fun _ => rfl⟩

end Go.Proofs.Ytcnaabkimgkpbaa
