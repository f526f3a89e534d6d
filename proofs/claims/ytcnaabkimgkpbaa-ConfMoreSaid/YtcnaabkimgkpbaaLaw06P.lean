/-
  Plain laws on configurations: a greater page, a greater quota, regions one behind the other. No program is named here.
-/
import Derived.Test.YtcnaabkimgkpbaaConfP
namespace Go.Proofs.Ytcnaabkimgkpbaa

/-- The same configuration, with another page. -/
def withPage (c : Conf) (pg : Int) : Conf := { c with page := pg }

theorem withPage_ok {c : Conf} (h : KOk c) {pg : Int} (h1 : c.page ≤ pg) (h2 : pg ≤ 64) : KOk (withPage c pg) := by
  obtain ⟨g1, g2, g3, g4, g5, g6, g7, g8, g9, g10⟩ := h.head
  exact ⟨h.cl, ⟨Int.le_trans g1 h1, h2, g3, g4, g5, g6, g7, g8, g9, g10⟩, h.ten⟩

/-- ceil (s / pe) is the least number of pages. -/
theorem pages_least {s pe n : Int} (hp : 1 ≤ pe) (h : s ≤ n * pe) : (s + pe - 1) / pe ≤ n := by
  have : (s + pe - 1) / pe < n + 1 := by rw [Int.ediv_lt_iff_lt_mul (by omega), Int.add_mul]; omega
  omega
theorem pages_enough {s pe : Int} (hp : 1 ≤ pe) : s ≤ (s + pe - 1) / pe * pe := by
  have h1 := Int.emod_add_mul_ediv (s + pe - 1) pe
  have h2 := Int.emod_lt_of_pos (s + pe - 1) (by omega : 0 < pe)
  rw [Int.mul_comm] at h1
  omega
theorem pages_last {s pe : Int} (hp : 1 ≤ pe) : ((s + pe - 1) / pe - 1) * pe < s := by
  have h1 := Int.emod_add_mul_ediv (s + pe - 1) pe
  have h2 := Int.emod_nonneg (s + pe - 1) (by omega : pe ≠ 0)
  rw [Int.mul_comm] at h1
  rw [Int.sub_mul]
  omega

theorem withPage_pages {c : Conf} (h : KOk c) {pg : Int} (h1 : c.page ≤ pg) (h2 : pg ≤ 64) {t k : Nat} (ht : t < c.ts.length) (hk : k < c.cl.length) :
    pagesOf (withPage c pg) t k ≤ pagesOf c t k ∧ (pagesOf (withPage c pg) t k - 1) * (pg / nth c.cl k) < slotsOf c t k := by
  have b := h.bounds ht hk
  have b' := (withPage_ok h h1 h2).bounds (t := t) (k := k) ht hk
  constructor
  · show (slotsOf c t k + perOf (withPage c pg) k - 1) / perOf (withPage c pg) k ≤ pagesOf c t k
    refine pages_least b'.per1 ?_
    have e1 : slotsOf c t k ≤ pagesOf c t k * perOf c k := pages_enough b.per1
    have e2 : perOf c k ≤ perOf (withPage c pg) k := Int.ediv_le_ediv (by have := b.c2; omega) h1
    have e3 := Int.mul_le_mul_of_nonneg_left (c := pagesOf c t k) e2 (by have := b.pg1; omega)
    omega
  · exact pages_last b'.per1

/-- What ConfCuts asks of one class. -/
theorem cuts_class {c : Conf} (h : KOk c) {t k : Nat} (ht : t < c.ts.length) (hk : k < c.cl.length) :
    slotsOf c t k * nth c.cl k ≤ (tnth c.ts t).q ∧ (tnth c.ts t).q < (slotsOf c t k + 1) * nth c.cl k ∧ slotsOf c t k ≤ pagesOf c t k * perOf c k ∧ pagesOf c t k * perOf c k < slotsOf c t k + perOf c k := by
  have b := h.bounds ht hk
  have c2 := b.c2
  have h1 := Int.emod_add_mul_ediv (tnth c.ts t).q (nth c.cl k)
  have h2 := Int.emod_lt_of_pos (tnth c.ts t).q (by omega : 0 < nth c.cl k)
  have h3 := Int.emod_nonneg (tnth c.ts t).q (by omega : nth c.cl k ≠ 0)
  rw [Int.mul_comm] at h1
  refine ⟨by unfold slotsOf; omega, by unfold slotsOf; rw [Int.add_mul]; omega, pages_enough b.per1, ?_⟩
  have := pages_last (s := slotsOf c t k) b.per1
  rw [Int.sub_mul] at this
  show (slotsOf c t k + perOf c k - 1) / perOf c k * perOf c k < _
  omega

end Go.Proofs.Ytcnaabkimgkpbaa
