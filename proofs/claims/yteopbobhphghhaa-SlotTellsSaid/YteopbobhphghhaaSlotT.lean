/-
  The document's slots in plain Lean: each slot's class, size, address and page; each page's first slot and how many it has. No program is named here.
-/
import Derived.Test.YteopbobhphghhaaSlotQ
namespace Go.Proofs.Yteopbobhphghhaa
open Go.RowKit

theorem InPage.of {c : Conf} {t k : Nat} {d i : Nat} (bd : Bounds c t k) (hi : (i : Int) < perOf c k) (hd : (d : Int) * perOf c k + i < slotsOf c t k) (hp : (d : Int) < pagesOf c t k) : InPage c t (sS c t k + d * perOf c k + i) k d i := by
  have p1 := bd.per1
  have e : atOf c t (sS c t k + d * perOf c k + i) k = d * perOf c k + i := by unfold atOf; omega
  have e1 : (d * perOf c k + (i : Int)) / perOf c k = d := by
    rw [Int.add_comm, Int.add_mul_ediv_right _ _ (by omega), Int.ediv_eq_zero_of_lt (by omega) hi]; omega
  have e2 : (d * perOf c k + (i : Int)) % perOf c k = i := by
    rw [Int.add_comm, Int.add_mul_emod_self_right, Int.emod_eq_of_lt (by omega) hi]
  have pg : pageOf c t (sS c t k + d * perOf c k + i) k = sG c t k + d := by unfold pageOf; rw [e, e1]
  exact ⟨rfl, by omega, hp, by omega, hi, hd, pg, by unfold addrOf; rw [pg, e, e2]⟩

/-- A slot's class; a page's. -/
def kOf (c : Conf) (t : Nat) (s : Int) : Nat := ((List.range c.cl.length).find? fun k => decide (s < sS c t (k + 1))).getD 0
def kpOf (c : Conf) (t : Nat) (p : Int) : Nat := ((List.range c.cl.length).find? fun k => decide (p < sG c t (k + 1))).getD 0
theorem AtClass.kOf {c : Conf} (ho : KOk c) {t : Nat} (ht : t < c.ts.length) {s : Int} {k : Nat} (h : AtClass c t s k) : kOf c t s = k := by
  have : (List.range c.cl.length).find? (fun k => decide (s < sS c t (k + 1))) = some k := by
    rw [List.find?_range_eq_some]
    refine ⟨by simpa using h.hi, by simpa using h.lt, fun j hj => ?_⟩
    have := sS_mono ho ht (a := j + 1) (b := k) (by omega) (by have := h.lt; omega)
    have := h.lo
    simp; omega
  unfold Go.Proofs.Yteopbobhphghhaa.kOf; rw [this]; rfl
theorem AtPage.kpOf {c : Conf} (ho : KOk c) {t : Nat} (ht : t < c.ts.length) {p : Int} {k : Nat} (h : AtPage c t p k) : kpOf c t p = k := by
  have : (List.range c.cl.length).find? (fun k => decide (p < sG c t (k + 1))) = some k := by
    rw [List.find?_range_eq_some]
    refine ⟨by simpa using h.hi, by simpa using h.lt, fun j hj => ?_⟩
    have := sG_mono ho ht (a := j + 1) (b := k) (by omega) (by have := h.lt; omega)
    have := h.lo
    simp; omega
  unfold Go.Proofs.Yteopbobhphghhaa.kpOf; rw [this]; rfl

def slc (c : Conf) (t : Nat) (s : Int) : List Value := [.int .i64 (kOf c t s), .int .i64 (nth c.cl (kOf c t s)), .int .i64 (addrOf c t s (kOf c t s)), .int .i64 (pageOf c t s (kOf c t s))]
def slcs (c : Conf) (t : Nat) : Nat → List Value
  | 0 => []
  | n + 1 => slcs c t n ++ slc c t n
theorem slcs_len (c : Conf) (t : Nat) : ∀ n, (slcs c t n).length = n * 4
  | 0 => rfl
  | n + 1 => by show (slcs c t n ++ slc c t n).length = _; rw [List.length_append, slcs_len c t n]; simp [slc]; omega
theorem slcs_at (c : Conf) (t : Nat) : ∀ n i j, i < n → j < 4 → (slcs c t n)[i * 4 + j]? = (slc c t i)[j]?
  | 0, i, j, hi, _ => absurd hi (Nat.not_lt_zero _)
  | n + 1, i, j, hi, hj => by
    show (slcs c t n ++ slc c t n)[i * 4 + j]? = _
    by_cases e : i < n
    · rw [List.getElem?_append_left (by rw [slcs_len]; omega)]; exact slcs_at c t n i j e hj
    · obtain rfl : i = n := by omega
      rw [List.getElem?_append_right (by rw [slcs_len]; omega), slcs_len]
      congr 1; omega
theorem slc_one (c : Conf) (t : Nat) (s : Int) : ∀ u ∈ slc c t s, u.oneCell' = true := by
  intro u h
  simp only [slc, List.mem_cons, List.not_mem_nil, or_false] at h
  rcases h with rfl | rfl | rfl | rfl <;> rfl

/-- The pages' first slots, and how many they have. -/
def firsts (c : Conf) (t n : Nat) : List Int := (List.range n).map fun (p : Nat) => firstP c t (p : Int) (kpOf c t (p : Int))
def manys (c : Conf) (t n : Nat) : List Int := (List.range n).map fun (p : Nat) => manyP c t (p : Int) (kpOf c t (p : Int))
theorem firsts_len (c : Conf) (t n : Nat) : (firsts c t n).length = n := by simp [firsts]
theorem manys_len (c : Conf) (t n : Nat) : (manys c t n).length = n := by simp [manys]
theorem firsts_succ (c : Conf) (t n : Nat) : firsts c t (n + 1) = firsts c t n ++ [firstP c t (n : Int) (kpOf c t n)] := by unfold firsts; rw [List.range_succ, List.map_append]; rfl
theorem manys_succ (c : Conf) (t n : Nat) : manys c t (n + 1) = manys c t n ++ [manyP c t (n : Int) (kpOf c t n)] := by unfold manys; rw [List.range_succ, List.map_append]; rfl
theorem nth_firsts {c : Conf} {t n p : Nat} (h : p < n) : nth (firsts c t n) p = firstP c t p (kpOf c t p) := by simp [nth, List.getD, firsts, h]
theorem nth_manys {c : Conf} {t n p : Nat} (h : p < n) : nth (manys c t n) p = manyP c t p (kpOf c t p) := by simp [nth, List.getD, manys, h]

end Go.Proofs.Yteopbobhphghhaa
