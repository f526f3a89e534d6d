/-
  slot: the plain law of slots and addresses.
-/
import Derived.Test.YteopbobhphghhaaSlotF
namespace Go.Proofs.Yteopbobhphghhaa

/-- A slot's place within its class: the page's, and that within the page. -/
structure InPage (c : Conf) (t : Nat) (s : Int) (k : Nat) (d m : Int) : Prop where
  eq : s = sS c t k + d * perOf c k + m
  d0 : 0 ≤ d
  dP : d < pagesOf c t k
  m0 : 0 ≤ m
  mP : m < perOf c k
  lt : d * perOf c k + m < slotsOf c t k
  pg : pageOf c t s k = sG c t k + d
  ad : addrOf c t s k = (sG c t k + d) * c.page + m * nth c.cl k
theorem AtClass.inPage {c : Conf} {t k : Nat} {s : Int} (ho : KOk c) (ht : t < c.ts.length) (h : AtClass c t s k) : ∃ d m, InPage c t s k d m := by
  have bd := ho.bounds ht h.lt
  have p1 := bd.per1
  have hi := h.hi
  have lo := h.lo
  have hs : sS c t (k + 1) = sS c t k + slotsOf c t k := rfl
  have e1 := Int.emod_add_mul_ediv (s - sS c t k) (perOf c k)
  have m0 := Int.emod_nonneg (s - sS c t k) (by omega : perOf c k ≠ 0)
  have m1 := Int.emod_lt_of_pos (s - sS c t k) (by omega : 0 < perOf c k)
  have d0 := Int.ediv_nonneg (a := s - sS c t k) (b := perOf c k) (by omega) (by omega)
  rw [Int.mul_comm] at e1
  refine ⟨(s - sS c t k) / perOf c k, (s - sS c t k) % perOf c k, by omega, d0, ?_, m0, m1, by omega, rfl, rfl⟩
  have : (s - sS c t k) / perOf c k + 1 ≤ (slotsOf c t k + perOf c k - 1) / perOf c k := by
    rw [Int.le_ediv_iff_mul_le (by omega), Int.add_mul]
    omega
  unfold pagesOf
  omega
theorem perOf_le {c : Conf} {k : Nat} (h : 2 ≤ nth c.cl k) : perOf c k * nth c.cl k ≤ c.page := by
  unfold perOf
  exact Int.ediv_mul_le _ (by omega)
theorem InPage.inside {c : Conf} {t k : Nat} {s d m : Int} (ho : KOk c) (ht : t < c.ts.length) (hk : k < c.cl.length) (h : InPage c t s k d m) : 0 ≤ m * nth c.cl k ∧ m * nth c.cl k + nth c.cl k ≤ c.page := by
  have bd := ho.bounds ht hk
  have c2 := bd.c2
  have h1 := perOf_le (c := c) (k := k) c2
  have h2 := Int.mul_nonneg h.m0 (by omega : 0 ≤ nth c.cl k)
  have h3 := Int.mul_le_mul_of_nonneg_right (show m + 1 ≤ perOf c k by have := h.mP; omega) (by omega : 0 ≤ nth c.cl k)
  rw [Int.add_mul] at h3
  omega
theorem InPage.page {c : Conf} {t k : Nat} {s d m : Int} (hk : k < c.cl.length) (h : InPage c t s k d m) : AtPage c t (sG c t k + d) k :=
  ⟨hk, by have := h.d0; omega, by have : sG c t (k + 1) = sG c t k + pagesOf c t k := rfl; have := h.dP; omega⟩
theorem div_in {p n x : Int} (hn : 1 ≤ n) (h0 : 0 ≤ x) (h1 : x < n) : (p * n + x) / n = p := by
  rw [Int.add_comm, Int.add_mul_ediv_right _ _ (by omega), Int.ediv_eq_zero_of_lt h0 h1]
  omega
theorem InPage.divs {c : Conf} {t k : Nat} {s d m : Int} (ho : KOk c) (ht : t < c.ts.length) (hk : k < c.cl.length) (h : InPage c t s k d m) :
    addrOf c t s k / c.page = sG c t k + d ∧ (addrOf c t s k + nth c.cl k - 1) / c.page = sG c t k + d := by
  have hi := h.inside ho ht hk
  have bd := ho.bounds ht hk
  have c2 := bd.c2; have cp := bd.cpage
  rw [h.ad]
  refine ⟨div_in (by omega) hi.1 (by omega), ?_⟩
  have := div_in (p := sG c t k + d) (n := c.page) (x := m * nth c.cl k + nth c.cl k - 1) (by omega) (by omega) (by omega)
  rwa [show (sG c t k + d) * c.page + (m * nth c.cl k + nth c.cl k - 1) = (sG c t k + d) * c.page + m * nth c.cl k + nth c.cl k - 1 by omega] at this
theorem InPage.ahead {c : Conf} {t k : Nat} {s d m : Int} (h : InPage c t s k d m) : aheadP c t (sG c t k + d) k = d * perOf c k := by
  have _ := h
  unfold aheadP
  rw [show sG c t k + d - sG c t k = d by omega]
theorem InPage.first {c : Conf} {t k : Nat} {s d m : Int} (h : InPage c t s k d m) : firstP c t (sG c t k + d) k + m = s ∧ m < manyP c t (sG c t k + d) k := by
  have ha := h.ahead
  have e := h.eq
  have l := h.lt
  have mp := h.mP
  unfold firstP manyP
  rw [ha]
  refine ⟨by omega, ?_⟩
  split <;> omega
theorem InPage.isAt {c : Conf} {t k N : Nat} {s d m : Int} (h : InPage c t s k d m) (hN : manyP c t (sG c t k + d) k = N) : IsAt c t (sG c t k + d) k N (addrOf c t s k) s 0 := by
  have f := h.first
  have m0 := h.m0
  have hm : ((m.toNat : Nat) : Int) = m := by omega
  exact .inl ⟨m.toNat, by omega, by rw [hm, h.ad], by rw [hm]; exact f.1.symm, rfl⟩

theorem sG_mono {c : Conf} (ho : KOk c) {t : Nat} (ht : t < c.ts.length) {a b : Nat} (hab : a ≤ b) (hb : b ≤ c.cl.length) : sG c t a + ((b - a : Nat) : Int) ≤ sG c t b := sumTo_lt (ho.pages1 ht) hab hb
theorem sS_mono {c : Conf} (ho : KOk c) {t : Nat} (ht : t < c.ts.length) {a b : Nat} (hab : a ≤ b) (hb : b ≤ c.cl.length) : sS c t a + ((b - a : Nat) : Int) ≤ sS c t b := sumTo_lt (ho.slots1 ht) hab hb
theorem AtClass.uniq {c : Conf} (ho : KOk c) {t : Nat} (ht : t < c.ts.length) {s : Int} {k j : Nat} (h : AtClass c t s k) (h' : AtClass c t s j) : k = j := by
  have a := h.lo; have b := h.hi; have a' := h'.lo; have b' := h'.hi; have l := h.lt; have l' := h'.lt
  rcases Nat.lt_trichotomy k j with g | g | g
  · have := sS_mono ho ht (a := k + 1) (b := j) g (by omega); omega
  · exact g
  · have := sS_mono ho ht (a := j + 1) (b := k) g (by omega); omega
theorem AtPage.uniq {c : Conf} (ho : KOk c) {t : Nat} (ht : t < c.ts.length) {s : Int} {k j : Nat} (h : AtPage c t s k) (h' : AtPage c t s j) : k = j := by
  have a := h.lo; have b := h.hi; have a' := h'.lo; have b' := h'.hi; have l := h.lt; have l' := h'.lt
  rcases Nat.lt_trichotomy k j with g | g | g
  · have := sG_mono ho ht (a := k + 1) (b := j) g (by omega); omega
  · exact g
  · have := sG_mono ho ht (a := j + 1) (b := k) g (by omega); omega

/-- A later slot lies behind the slot before it. -/
theorem slots_apart {c : Conf} (ho : KOk c) {t : Nat} (ht : t < c.ts.length) {s s' : Int} {k k' : Nat} (h : AtClass c t s k) (h' : AtClass c t s' k') (hs : s < s') : addrOf c t s k + nth c.cl k ≤ addrOf c t s' k' := by
  obtain ⟨d, m, q⟩ := h.inPage ho ht
  obtain ⟨d', m', q'⟩ := h'.inPage ho ht
  have i1 := q.inside ho ht h.lt
  have i2 := q'.inside ho ht h'.lt
  have pg1 : 1 ≤ c.page := by have := (ho.bounds ht h.lt).c2; omega
  have far : ∀ {x y : Int}, x + 1 ≤ y → x * c.page + c.page ≤ y * c.page := fun {x y} hxy => by
    have := Int.mul_le_mul_of_nonneg_right hxy (by omega : 0 ≤ c.page)
    rwa [Int.add_mul, Int.one_mul] at this
  rw [q.ad, q'.ad]
  have kk : k ≤ k' := by
    rcases Nat.lt_or_ge k' k with g | g
    · have := sS_mono ho ht (a := k' + 1) (b := k) g (by have := h.lt; omega)
      have := h'.hi; have := h.lo; omega
    · exact g
  rcases Nat.lt_or_ge k k' with g | g
  · have g1 := sG_mono ho ht (a := k + 1) (b := k') g (by have := h'.lt; omega)
    have g2 : sG c t (k + 1) = sG c t k + pagesOf c t k := rfl
    have := far (x := sG c t k + d) (y := sG c t k' + d') (by have := q.dP; have := q'.d0; omega)
    omega
  · have e : k' = k := by omega
    subst e
    have e1 := q.eq; have e2 := q'.eq
    have p1 := (ho.bounds ht h.lt).per1
    have dd : d ≤ d' := by
      rcases Int.lt_or_le d' d with g | g
      · have := Int.mul_le_mul_of_nonneg_right (show d' + 1 ≤ d by omega) (by omega : 0 ≤ perOf c k')
        rw [Int.add_mul] at this
        have := q'.mP; have := q.m0; omega
      · exact g
    rcases Int.lt_or_le d d' with g | g
    · have := far (x := sG c t k' + d) (y := sG c t k' + d') (by omega)
      omega
    · have e3 : d' = d := by omega
      subst e3
      have := Int.mul_le_mul_of_nonneg_right (show m + 1 ≤ m' by omega) (by have := (ho.bounds ht h.lt).c2; omega : 0 ≤ nth c.cl k')
      rw [Int.add_mul, Int.one_mul] at this
      omega
/-- All slots lie in the region. -/
theorem slots_within {c : Conf} (ho : KOk c) {t : Nat} (ht : t < c.ts.length) {s : Int} {k : Nat} (h : AtClass c t s k) : 0 ≤ addrOf c t s k ∧ addrOf c t s k + nth c.cl k ≤ sG c t c.cl.length * c.page := by
  obtain ⟨d, m, q⟩ := h.inPage ho ht
  have i1 := q.inside ho ht h.lt
  have pg1 : 1 ≤ c.page := by have := (ho.bounds ht h.lt).c2; omega
  have g1 := sG_mono ho ht (a := k + 1) (b := c.cl.length) h.lt (Nat.le_refl _)
  have g2 : sG c t (k + 1) = sG c t k + pagesOf c t k := rfl
  have g3 := (ho.sG_le ht (k := k) (by have := h.lt; omega)).1
  have d0 := q.d0
  have h1 := Int.mul_le_mul_of_nonneg_right (show sG c t k + d + 1 ≤ sG c t c.cl.length by have := q.dP; omega) (by omega : 0 ≤ c.page)
  rw [Int.add_mul, Int.one_mul] at h1
  have h2 := Int.mul_nonneg (show 0 ≤ sG c t k + d by omega) (by omega : 0 ≤ c.page)
  rw [q.ad]
  omega
/-- An address is a slot's, or no slot's. -/
theorem addr_cases {c : Conf} (ho : KOk c) {t k N : Nat} (ht : t < c.ts.length) {a p : Int} (hp : a / c.page = p) (hk : AtPage c t p k) (hN : manyP c t p k = N) :
    (∃ s, AtClass c t s k ∧ addrOf c t s k = a ∧ IsAt c t p k N a s 0) ∨ ((∀ s j, AtClass c t s j → addrOf c t s j ≠ a) ∧ IsAt c t p k N a 0 7) := by
  by_cases he : ∃ j : Nat, j < N ∧ p * c.page + j * nth c.cl k = a
  · obtain ⟨j, h1, h2⟩ := he
    have ab := ahead_bd ho ht hk
    have hj : (j : Int) < perOf c k ∧ aheadP c t p k + j < slotsOf c t k := by
      unfold manyP at hN; split at hN <;> omega
    have AC : AtClass c t (firstP c t p k + j) k := ⟨hk.lt, by unfold firstP; omega, by unfold firstP; have : sS c t (k + 1) = sS c t k + slotsOf c t k := rfl; omega⟩
    refine .inl ⟨firstP c t p k + j, AC, ?_, .inl ⟨j, h1, h2, rfl, rfl⟩⟩
    obtain ⟨d, m, q⟩ := AC.inPage ho ht
    have e := q.eq
    have p1 := (ho.bounds ht hk.lt).per1
    have hd : (p - sG c t k) * perOf c k + j = d * perOf c k + m := by unfold firstP aheadP at e; omega
    have d1 : ((p - sG c t k) * perOf c k + j) / perOf c k = p - sG c t k := div_in p1 (by omega) hj.1
    have d2 : (d * perOf c k + m) / perOf c k = d := div_in p1 q.m0 q.mP
    have hdd : d = p - sG c t k := by rw [hd] at d1; omega
    have hm : m = j := by rw [hdd] at hd; omega
    rw [q.ad, hdd, hm, show sG c t k + (p - sG c t k) = p by omega, h2]
  · refine .inr ⟨fun s j AC e => he ?_, .inr ⟨fun j h1 h2 => he ⟨j, h1, h2⟩, rfl, rfl⟩⟩
    obtain ⟨d, m, q⟩ := AC.inPage ho ht
    have dv := (q.divs ho ht AC.lt).1
    rw [e, hp] at dv
    have hpg := q.page AC.lt
    rw [← dv] at hpg
    obtain rfl := hpg.uniq ho ht hk
    have f := q.first
    have m0 := q.m0
    rw [← dv] at f
    have hm : ((m.toNat : Nat) : Int) = m := by omega
    refine ⟨m.toNat, by omega, ?_⟩
    rw [hm, ← e, q.ad, ← dv]

/-- Addresses counted: the slots below an address. -/
structure Found (c : Conf) (t : Nat) (a f : Int) : Prop where
  f0 : 0 ≤ f
  fS : f ≤ sS c t c.cl.length
  below : ∀ s k, AtClass c t s k → s < f → addrOf c t s k < a
  above : ∀ s k, AtClass c t s k → f ≤ s → a ≤ addrOf c t s k
theorem Found.start {c : Conf} (ho : KOk c) {t : Nat} (ht : t < c.ts.length) : Found c t (-1) 0 :=
  ⟨Int.le_refl _, by have := (ho.sS_le ht (Nat.le_refl _)).1; omega, fun s k h hs => by
    have := (ho.sS_le ht (k := k) (by have := h.lt; omega)).1; have := h.lo; omega, fun s k h _ => by have := (slots_within ho ht h).1; omega⟩
theorem Found.hit {c : Conf} (ho : KOk c) {t : Nat} (ht : t < c.ts.length) {a f s : Int} {k : Nat} (h : Found c t a f) (hs : AtClass c t s k) (he : addrOf c t s k = a) : Found c t (a + 1) (f + 1) := by
  have h1 : f ≤ s := by
    rcases Int.lt_or_le s f with g | g
    · have := h.below s k hs g; omega
    · exact g
  have sS1 : s < sS c t c.cl.length := by
    have := sS_mono ho ht (a := k + 1) (b := c.cl.length) hs.lt (Nat.le_refl _); have := hs.hi; omega
  have h2 : s = f := by
    rcases Int.lt_or_le f s with g | g
    · obtain ⟨j, hj⟩ := atClass_find (c := c) (t := t) h.f0 (by omega : f < sS c t c.cl.length)
      have := h.above f j hj (Int.le_refl _)
      have := slots_apart ho ht hj hs g
      have := (ho.bounds ht hj.lt).c2
      omega
    · omega
  subst h2
  refine ⟨by have := h.f0; omega, by omega, fun x j hx hl => ?_, fun x j hx hl => ?_⟩
  · rcases Int.lt_or_le x s with g | g
    · have := h.below x j hx g; omega
    · obtain rfl : x = s := by omega
      obtain rfl := hx.uniq ho ht hs
      omega
  · have := slots_apart ho ht hs hx (by omega)
    have := (ho.bounds ht hs.lt).c2
    omega
theorem Found.miss {c : Conf} {t : Nat} {a f : Int} (h : Found c t a f) (hn : ∀ s k, AtClass c t s k → addrOf c t s k ≠ a) : Found c t (a + 1) f :=
  ⟨h.f0, h.fS, fun s k hs hl => by have := h.below s k hs hl; omega, fun s k hs hl => by have := h.above s k hs hl; have := hn s k hs; omega⟩
theorem Found.all {c : Conf} (ho : KOk c) {t : Nat} (ht : t < c.ts.length) {a f : Int} (h : Found c t a f) (ha : sG c t c.cl.length * c.page ≤ a) : f = sS c t c.cl.length := by
  rcases Int.lt_or_le f (sS c t c.cl.length) with g | g
  · obtain ⟨j, hj⟩ := atClass_find h.f0 g
    have := h.above f j hj (Int.le_refl _)
    have := slots_within ho ht hj
    have := (ho.bounds ht hj.lt).c2
    omega
  · have := h.fS; omega

/-- Where a page's slots begin; behind the last page: all slots. -/
def PgStart (c : Conf) (t : Nat) (p x : Int) : Prop := (∃ k, AtPage c t p k ∧ x = firstP c t p k) ∨ (p = sG c t c.cl.length ∧ x = sS c t c.cl.length)
theorem pgStart_at {c : Conf} (ho : KOk c) {t : Nat} (ht : t < c.ts.length) (k : Nat) (hk : k ≤ c.cl.length) : PgStart c t (sG c t k) (sS c t k) := by
  rcases Nat.lt_or_ge k c.cl.length with g | g
  · refine .inl ⟨k, ⟨g, Int.le_refl _, ?_⟩, ?_⟩
    · have : sG c t (k + 1) = sG c t k + pagesOf c t k := rfl
      have := (ho.bounds ht g).pg1; omega
    · unfold firstP aheadP; simp
  · obtain rfl : k = c.cl.length := by omega
    exact .inr ⟨rfl, rfl⟩
theorem pgStart_next {c : Conf} (ho : KOk c) {t k : Nat} (ht : t < c.ts.length) {p : Int} (h : AtPage c t p k) : PgStart c t (p + 1) (firstP c t p k + manyP c t p k) := by
  have e1 : sG c t (k + 1) = sG c t k + pagesOf c t k := rfl
  have e2 : sS c t (k + 1) = sS c t k + slotsOf c t k := rfl
  have lo := h.lo; have hi := h.hi
  have p1 := (ho.bounds ht h.lt).per1
  rcases Int.lt_or_le (p + 1) (sG c t (k + 1)) with g | g
  · have hn : AtPage c t (p + 1) k := ⟨h.lt, by omega, g⟩
    have ab := ahead_bd ho ht hn
    have ea : aheadP c t (p + 1) k = aheadP c t p k + perOf c k := by
      unfold aheadP; rw [show p + 1 - sG c t k = p - sG c t k + 1 by omega, Int.add_mul, Int.one_mul]
    refine .inl ⟨k, hn, ?_⟩
    unfold firstP manyP
    rw [ea] at ab ⊢
    rw [if_neg (by omega)]
    omega
  · have hp1 : p + 1 = sG c t (k + 1) := by omega
    rw [hp1]
    have hl : slotsOf c t k ≤ aheadP c t p k + perOf c k := by
      have hpg : pagesOf c t k = p - sG c t k + 1 := by omega
      have hle : ¬ (p - sG c t k + 1 + 1 ≤ (slotsOf c t k + perOf c k - 1) / perOf c k) := by unfold pagesOf at hpg; omega
      rw [Int.le_ediv_iff_mul_le (by omega), Int.add_mul, Int.add_mul, Int.one_mul] at hle
      unfold aheadP
      omega
    have hm : firstP c t p k + manyP c t p k = sS c t (k + 1) := by
      unfold firstP manyP; split <;> omega
    rw [hm]
    exact pgStart_at ho ht (k + 1) h.lt
theorem page_slots {c : Conf} (ho : KOk c) {t k : Nat} (ht : t < c.ts.length) {p : Int} (h : AtPage c t p k) :
    1 ≤ manyP c t p k ∧ AtClass c t (firstP c t p k) k ∧ AtClass c t (firstP c t p k + manyP c t p k - 1) k := by
  have ab := ahead_bd ho ht h
  have p1 := (ho.bounds ht h.lt).per1
  have e2 : sS c t (k + 1) = sS c t k + slotsOf c t k := rfl
  have hm : manyP c t p k = slotsOf c t k - aheadP c t p k ∨ (manyP c t p k = perOf c k ∧ perOf c k ≤ slotsOf c t k - aheadP c t p k) := by
    unfold manyP; split <;> omega
  refine ⟨?_, ⟨h.lt, ?_, ?_⟩, ⟨h.lt, ?_, ?_⟩⟩ <;> (try unfold firstP) <;> omega

end Go.Proofs.Yteopbobhphghhaa
