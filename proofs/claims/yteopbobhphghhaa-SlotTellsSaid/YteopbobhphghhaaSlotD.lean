/-
  slot: In.
-/
import Derived.Test.YteopbobhphghhaaSlotC
namespace Go.Proofs.Yteopbobhphghhaa
open Go.RowKit Go.Shelf

/-- A page's first slot, and how many it has. -/
def firstP (c : Conf) (t : Nat) (p : Int) (k : Nat) : Int := sS c t k + aheadP c t p k
def manyP (c : Conf) (t : Nat) (p : Int) (k : Nat) : Int := if slotsOf c t k - aheadP c t p k < perOf c k then slotsOf c t k - aheadP c t p k else perOf c k

theorem ahead_bd {c : Conf} {t k : Nat} {p : Int} (ho : KOk c) (ht : t < c.ts.length) (hk : AtPage c t p k) : 0 ≤ aheadP c t p k ∧ aheadP c t p k < slotsOf c t k := by
  have bd := ho.bounds ht hk.lt
  have u1 := bd.per1
  have e : sG c t (k + 1) = sG c t k + pagesOf c t k := rfl
  have lo := hk.lo; have hi := hk.hi
  have hd : p - sG c t k + 1 ≤ pagesOf c t k := by omega
  have hpg : pagesOf c t k * perOf c k ≤ slotsOf c t k + perOf c k - 1 := by unfold pagesOf; exact Int.ediv_mul_le _ (by omega)
  have h1 := Int.mul_le_mul_of_nonneg_right (c := perOf c k) hd (by omega)
  have h2 : (p - sG c t k + 1) * perOf c k = (p - sG c t k) * perOf c k + perOf c k := by rw [Int.add_mul, Int.one_mul]
  unfold aheadP
  exact ⟨Int.mul_nonneg (by omega) (by omega), by omega⟩

set_option maxRecDepth 100000 in
set_option maxHeartbeats 8000000 in
theorem slot_In {b gp k : Nat} {c : Conf} {t : Nat} {p : Int} {w : World} (h : PlanAt w b gp c t) (hk : AtPage c t p k) :
    Calls Try.prog 60 #[.pointer (some ⟨b, 0, none⟩), .int .i64 p] w fun e w' => e = .returned (.tuple #[.int .i64 (firstP c t p k), .int .i64 (manyP c t p k), .int .i64 0]) ∧ Ext w w' := by
  have h2 := h.pages
  have H := Lib.hid h; have HK := Lib.hid hk
  have m8 := h.ok.cl.most
  have kl := hk.lt
  have bd := h.ok.bounds h.ti kl
  have u1 := bd.per1; have u2 := bd.per32; have u3 := bd.s2048; have u4 := bd.s1
  have gl := h.ok.sS_le h.ti (Nat.le_of_lt kl)
  obtain ⟨g0, g1⟩ := gl
  obtain ⟨a0, a1⟩ := ahead_bd h.ok h.ti hk
  have lo := hk.lo; have hi := hk.hi
  have gk := h.ok.sG_le h.ti (Nat.le_of_lt kl)
  have up := sumTo_lt (f := pagesOf c t) (n := c.cl.length) (a := k + 1) (b := c.cl.length) (h.ok.pages1 h.ti) (by omega) (Nat.le_refl _)
  have up2 : sG c t (k + 1) ≤ sG c t c.cl.length := by unfold sG; omega
  have t0 : decide (p < 0) = false := by simp; omega
  have t1 : decide (sG c t c.cl.length ≤ p) = false := by simp; omega
  have p0 : 0 ≤ p := by omega
  have HF := Lib.hid (show firstP c t p k = sS c t k + aheadP c t p k from rfl)
  have HM := Lib.hid (show manyP c t p k = if slotsOf c t k - aheadP c t p k < perOf c k then slotsOf c t k - aheadP c t p k else perOf c k from rfl)
  clear h hk bd up up2 gk lo hi
  go_enter Try.func60, Try.ntmps60
  go_wp2_with fail
  refine (slot_none H.out).mono ?_
  rintro e w1000 ⟨rfl, rfl⟩
  go_wp2_with fail
  refine (slot_in H.out HK.out).mono ?_
  rintro e w1 ⟨rfl, x⟩
  unfold pv5 partOf
  generalize aheadP c t p k = a at *
  generalize sS c t k = S at *
  generalize slotsOf c t k = s at *
  generalize perOf c k = pe at *
  go_wp2_with fail
  by_cases hm : s - a < pe
  · have HM2 := Lib.hid (show manyP c t p k = s - a by rw [HM.out, if_pos hm])
    go_region
    all_goals
      go_wp2_with fail
      go_ret3
      exact ⟨by rw [HF.out, HM2.out]; rfl, (x.alloc _).drew⟩
  · have HM2 := Lib.hid (show manyP c t p k = pe by rw [HM.out, if_neg hm])
    go_region
    all_goals
      go_wp2_with fail
      go_ret3
      exact ⟨by rw [HF.out, HM2.out]; rfl, (x.alloc _).drew⟩

set_option maxHeartbeats 2000000 in
theorem slot_In_no {b gp : Nat} {c : Conf} {t : Nat} {p : Int} {w : World} (h : PlanAt w b gp c t) (hk : p < 0 ∨ sG c t c.cl.length ≤ p) :
    Calls Try.prog 60 #[.pointer (some ⟨b, 0, none⟩), .int .i64 p] w fun e w' => e = .returned (.tuple #[.int .i64 0, .int .i64 0, .int .i64 2]) ∧ Ext w w' := by
  have h2 := h.pages
  have H := Lib.hid h
  have gk := h.ok.sG_le h.ti (Nat.le_refl _)
  clear h
  by_cases h0 : p < 0
  · have t0 : decide (p < 0) = true := by simp; omega
    clear hk
    go_enter Try.func60, Try.ntmps60
    go_wp2_with fail
    refine (slot_none H.out).mono ?_
    rintro e w1000 ⟨rfl, rfl⟩
    go_wp2_with fail
    go_ret3
    exact ⟨rfl, Ext.refl _⟩
  · have t0 : decide (p < 0) = false := by simp; omega
    have t1 : decide (sG c t c.cl.length ≤ p) = true := by simp; omega
    have p0 : 0 ≤ p := by omega
    clear hk
    go_enter Try.func60, Try.ntmps60
    go_wp2_with fail
    refine (slot_none H.out).mono ?_
    rintro e w1000 ⟨rfl, rfl⟩
    go_wp2_with fail
    go_ret3
    exact ⟨rfl, Ext.refl _⟩

end Go.Proofs.Yteopbobhphghhaa
