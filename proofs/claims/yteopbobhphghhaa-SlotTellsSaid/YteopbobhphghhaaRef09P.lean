/-
  Pages, one by one, in plain Lean: what the document's New has done when so many pages of a class are laid. No program is named here.
-/
import Derived.Test.YteopbobhphghhaaSlotT
import Derived.Test.YteopbobhphghhaaRef06
namespace Go.Proofs.Yteopbobhphghhaa
open Go.RowKit

/-- How many slots of a class are left behind d pages. -/
def leftM (S per : Int) (d : Nat) : Int := if (d : Int) * per < S then S - d * per else 0
theorem leftM_zero {S per : Int} (h : 0 ≤ S) : leftM S per 0 = S := by
  unfold leftM; split <;> simp at * <;> omega
structure PageF (c : Conf) (t k d M : Nat) : Prop where
  dP : (d : Int) < pagesOf c t k
  at_ : AtPage c t (sG c t k + d) k
  first : firstP c t (sG c t k + d) k = sS c t k + d * perOf c k
  many : manyP c t (sG c t k + d) k = M
  pos : 1 ≤ M
  per : (M : Int) ≤ perOf c k
  lef : (M : Int) ≤ slotsOf c t k - d * perOf c k
  one : (M : Int) = perOf c k ∨ (M : Int) = slotsOf c t k - d * perOf c k
  next : leftM (slotsOf c t k) (perOf c k) (d + 1) = slotsOf c t k - d * perOf c k - M
theorem pageF {c : Conf} {t k d : Nat} (ho : KOk c) (ht : t < c.ts.length) (hk : k < c.cl.length) (hd : (d : Int) * perOf c k < slotsOf c t k) : ∃ M, PageF c t k d M := by
  have bd := ho.bounds ht hk
  have p1 := bd.per1
  have dP : (d : Int) < pagesOf c t k := by
    have := pages_up (s := slotsOf c t k) (pe := perOf c k) (k := d) p1 hd
    unfold pagesOf; omega
  have hG : sG c t (k + 1) = sG c t k + pagesOf c t k := rfl
  have ap : AtPage c t (sG c t k + d) k := ⟨hk, by omega, by omega⟩
  have ea : aheadP c t (sG c t k + d) k = d * perOf c k := by
    unfold aheadP; rw [show sG c t k + (d : Int) - sG c t k = d by omega]
  have pos := (page_slots ho ht ap).1
  have hm : manyP c t (sG c t k + d) k = if slotsOf c t k - d * perOf c k < perOf c k then slotsOf c t k - d * perOf c k else perOf c k := by unfold manyP; rw [ea]
  refine ⟨(manyP c t (sG c t k + d) k).toNat, dP, ap, by unfold firstP; rw [ea], by omega, by omega, ?_, ?_, ?_, ?_⟩
  · rw [Int.toNat_of_nonneg (by omega), hm]; split <;> omega
  · rw [Int.toNat_of_nonneg (by omega), hm]; split <;> omega
  · rw [Int.toNat_of_nonneg (by omega), hm]; split <;> omega
  · rw [Int.toNat_of_nonneg (by omega), hm]
    have e : ((d + 1 : Nat) : Int) * perOf c k = d * perOf c k + perOf c k := by rw [Int.natCast_add, Int.add_mul]; simp
    unfold leftM
    rw [e]
    split <;> split <;> omega
/-- No slot is left: all pages are laid. -/
theorem pages_all {c : Conf} {t k d : Nat} (ho : KOk c) (ht : t < c.ts.length) (hk : k < c.cl.length) (hd : (d : Int) ≤ pagesOf c t k) (h : ¬ (d : Int) * perOf c k < slotsOf c t k) : (d : Int) = pagesOf c t k := by
  have p1 := (ho.bounds ht hk).per1
  exact pages_end p1 hd (by omega)
theorem PageF.slot {c : Conf} {t k d M m : Nat} (h : PageF c t k d M) (ho : KOk c) (ht : t < c.ts.length) (hm : m < M) {n : Nat} (hn : (n : Int) = sS c t k + d * perOf c k + m) :
    slc c t (n : Int) = [.int .i64 k, .int .i64 (nth c.cl k), .int .i64 ((sG c t k + d) * c.page + m * nth c.cl k), .int .i64 (sG c t k + d)] := by
  have hk := h.at_.lt
  have bd := ho.bounds ht hk
  have ip := InPage.of bd (i := m) (d := d) (by have := h.per; omega) (by have := h.lef; omega) h.dP
  rw [← hn] at ip
  have hc : AtClass c t (n : Int) k := by
    have e : sS c t (k + 1) = sS c t k + slotsOf c t k := rfl
    have h0 : 0 ≤ (d : Int) * perOf c k := Int.mul_nonneg (Int.natCast_nonneg _) (by have := bd.per1; omega)
    have := h.lef
    exact ⟨hk, by omega, by omega⟩
  unfold slc
  rw [hc.kOf ho ht, ip.ad, ip.pg]
theorem PageF.kp {c : Conf} {t k d M : Nat} (h : PageF c t k d M) (ho : KOk c) (ht : t < c.ts.length) {p : Nat} (hp : (p : Int) = sG c t k + d) : kpOf c t (p : Int) = k := by
  have := h.at_
  rw [← hp] at this
  exact this.kpOf ho ht
/-- The least place within a page that is not there. -/
theorem at_in {x per page : Int} {m : Nat} (hx : 2 ≤ x) (hp : per = page / x) (hm : (m : Int) < per) : (m : Int) * x + x ≤ page := by
  have h1 : ((m : Int) + 1) ≤ page / x := by omega
  have h2 := (Int.le_ediv_iff_mul_le (by omega : 0 < x)).1 h1
  rw [Int.add_mul] at h2
  omega
theorem at_out {x per page : Int} {m : Nat} (hx : 2 ≤ x) (hp : per = page / x) (hm : (m : Int) = per) : page < (m : Int) * x + x := by
  have h1 := Int.lt_ediv_add_one_mul_self page (by omega : 0 < x)
  rw [hm, hp]
  rw [Int.add_mul] at h1
  omega

end Go.Proofs.Yteopbobhphghhaa
