/-
  Merged texts: SlotF, SlotQ, SlotT, Ref09, Ref09P, Ref09n.
-/
import Derived.Test.YtlhajoamebfniaaDoorG03
import Derived.Test.YtlhajoamebfniaaDoorG02
import Derived.BigQuiet
import Derived.Deep.QuietTactic
import Derived.Deep.RegionHeld3
import Derived.Deep.AppendLies
set_option linter.unusedVariables false
set_option linter.unusedSimpArgs false
/-! slot: At. -/
namespace Go.Proofs.YtlhajoamebfniaaDoor
open Go.RowKit Go.Shelf
attribute [local go_sem] Oper.semAt_some

theorem wpIn_region_noPanic {F : Fence} {n : Nat} {P : Program} {id : Nat} {ops : Array Oper} {bb : Bool} {Q : Exit → Act → World → Prop} {a : Act} {w : World} (h : (Code.region id ops bb).wpIn F n P (NoPanic Q) a w) : (Code.region id ops bb).wpIn F n P Q a w :=
  wpIn_mono h (fun e a w h => NoPanic.imp e a w h)
theorem three_new (w : World) (v0 v1 v2 : Value) (t0 t1 t2 : TypeId) :
    (((w.alloc (.cells #[v0] t0)).alloc (.cells #[v1] t1)).alloc (.cells #[v2] t2)).cell? ⟨w.heap.size, 0, none⟩ = some v0 ∧
    ((((w.alloc (.cells #[v0] t0)).alloc (.cells #[v1] t1)).alloc (.cells #[v2] t2)).cell? ⟨w.heap.size + 1, 0, none⟩ = some v1 ∧ (((w.alloc (.cells #[v0] t0)).alloc (.cells #[v1] t1)).alloc (.cells #[v2] t2)).frozen? ⟨w.heap.size + 1, 0, none⟩ = false) ∧
    ((((w.alloc (.cells #[v0] t0)).alloc (.cells #[v1] t1)).alloc (.cells #[v2] t2)).cell? ⟨w.heap.size + 1 + 1, 0, none⟩ = some v2 ∧ (((w.alloc (.cells #[v0] t0)).alloc (.cells #[v1] t1)).alloc (.cells #[v2] t2)).frozen? ⟨w.heap.size + 1 + 1, 0, none⟩ = false) := by
  have c1 := cell_newN (w.alloc (.cells #[v0] t0)) #[v1] t1 0
  have c2 := cell_newN ((w.alloc (.cells #[v0] t0)).alloc (.cells #[v1] t1)) #[v2] t2 0
  have f1 : ((w.alloc (.cells #[v0] t0)).alloc (.cells #[v1] t1)).frozen? ⟨(w.alloc (.cells #[v0] t0)).heap.size, 0, none⟩ = false := World.frozen?_alloc_at _ _ _ _ rfl
  have f2 : (((w.alloc (.cells #[v0] t0)).alloc (.cells #[v1] t1)).alloc (.cells #[v2] t2)).frozen? ⟨((w.alloc (.cells #[v0] t0)).alloc (.cells #[v1] t1)).heap.size, 0, none⟩ = false := World.frozen?_alloc_at _ _ _ _ rfl
  simp only [World.size_alloc] at c1 c2 f1 f2
  have e := (Ext.refl ((w.alloc (.cells #[v0] t0)).alloc (.cells #[v1] t1))).alloc (.cells #[v2] t2)
  exact ⟨(((Ext.refl _).alloc _).alloc _).cell (cell_newN w _ _ 0), ⟨e.cell c1, e.frozenAt c1 f1⟩, c2, f2⟩

theorem KC_b {n₀ : Nat} {w : World} (hn : n₀ ≤ w.heap.size) (W : World) (l : Nat) (o o' : Obj) (hl : w.heap.size ≤ l) (h : W.heap[l]? = some o) (hc : o.isCells = false) (hw : o.isWalk = false) : KC n₀ W (W.putObj l o') := by
  refine ⟨belowK_b hn W l o o' hl h hc hw, fun k o2 hk h2 => ?_⟩
  have hne : k ≠ l := by rintro rfl; rw [h] at hk; cases hk; rw [hc] at h2; cases h2
  have hlt : k < W.heap.size := (Array.getElem?_eq_some_iff.1 hk).1
  have hg := grownBy_putObj' W l o'
  rw [hg.block k hlt (by simpa using hne)]; exact hk

/-- What At tells of an address. -/
def IsAt (c : Conf) (t : Nat) (p : Int) (k N : Nat) (addr r q : Int) : Prop :=
  (∃ j : Nat, j < N ∧ p * c.page + j * nth c.cl k = addr ∧ r = firstP c t p k + j ∧ q = 0) ∨ ((∀ j : Nat, j < N → p * c.page + j * nth c.cl k ≠ addr) ∧ r = 0 ∧ q = 7)

end Go.Proofs.YtlhajoamebfniaaDoor

/-! slot: the plain law of slots and addresses. -/
namespace Go.Proofs.YtlhajoamebfniaaDoor

/-- A slot's place within its class: the page's, and that within the page. -/
structure InPage (c : Conf) (t : Nat) (s : Int) (k : Nat) (d m : Int) : Prop where
  eq : s = sS c t k + d * perOf c k + m
  d0 : 0 ≤ d
  dP : d < pagesOf c t k
  m0 : 0 ≤ m
  mP : m < perOf c k
  lt : d * perOf c k + m < slotsOf c t k
  pg : pageOf c t s k = sG c t k + d
  ad : addrOf c t s k = (sG c t k + d) * c.page + m * nth c.cl k
theorem AtClass.inPage {c : Conf} {t k : Nat} {s : Int} (ho : KOk c) (ht : t < c.ts.length) (h : AtClass c t s k) : ∃ d m, InPage c t s k d m := by
  have bd := ho.bounds ht h.lt
  have p1 := bd.per1
  have hi := h.hi
  have lo := h.lo
  have hs : sS c t (k + 1) = sS c t k + slotsOf c t k := rfl
  have e1 := Int.emod_add_mul_ediv (s - sS c t k) (perOf c k)
  have m0 := Int.emod_nonneg (s - sS c t k) (by omega : perOf c k ≠ 0)
  have m1 := Int.emod_lt_of_pos (s - sS c t k) (by omega : 0 < perOf c k)
  have d0 := Int.ediv_nonneg (a := s - sS c t k) (b := perOf c k) (by omega) (by omega)
  rw [Int.mul_comm] at e1
  refine ⟨(s - sS c t k) / perOf c k, (s - sS c t k) % perOf c k, by omega, d0, ?_, m0, m1, by omega, rfl, rfl⟩
  have : (s - sS c t k) / perOf c k + 1 ≤ (slotsOf c t k + perOf c k - 1) / perOf c k := by
    rw [Int.le_ediv_iff_mul_le (by omega), Int.add_mul]
    omega
  unfold pagesOf
  omega
theorem perOf_le {c : Conf} {k : Nat} (h : 2 ≤ nth c.cl k) : perOf c k * nth c.cl k ≤ c.page := by
  unfold perOf
  exact Int.ediv_mul_le _ (by omega)
theorem InPage.inside {c : Conf} {t k : Nat} {s d m : Int} (ho : KOk c) (ht : t < c.ts.length) (hk : k < c.cl.length) (h : InPage c t s k d m) : 0 ≤ m * nth c.cl k ∧ m * nth c.cl k + nth c.cl k ≤ c.page := by
  have bd := ho.bounds ht hk
  have c2 := bd.c2
  have h1 := perOf_le (c := c) (k := k) c2
  have h2 := Int.mul_nonneg h.m0 (by omega : 0 ≤ nth c.cl k)
  have h3 := Int.mul_le_mul_of_nonneg_right (show m + 1 ≤ perOf c k by have := h.mP; omega) (by omega : 0 ≤ nth c.cl k)
  rw [Int.add_mul] at h3
  omega
theorem InPage.page {c : Conf} {t k : Nat} {s d m : Int} (hk : k < c.cl.length) (h : InPage c t s k d m) : AtPage c t (sG c t k + d) k :=
  ⟨hk, by have := h.d0; omega, by have : sG c t (k + 1) = sG c t k + pagesOf c t k := rfl; have := h.dP; omega⟩
theorem div_in {p n x : Int} (hn : 1 ≤ n) (h0 : 0 ≤ x) (h1 : x < n) : (p * n + x) / n = p := by
  rw [Int.add_comm, Int.add_mul_ediv_right _ _ (by omega), Int.ediv_eq_zero_of_lt h0 h1]
  omega
theorem InPage.divs {c : Conf} {t k : Nat} {s d m : Int} (ho : KOk c) (ht : t < c.ts.length) (hk : k < c.cl.length) (h : InPage c t s k d m) :
    addrOf c t s k / c.page = sG c t k + d ∧ (addrOf c t s k + nth c.cl k - 1) / c.page = sG c t k + d := by
  have hi := h.inside ho ht hk
  have bd := ho.bounds ht hk
  have c2 := bd.c2; have cp := bd.cpage
  rw [h.ad]
  refine ⟨div_in (by omega) hi.1 (by omega), ?_⟩
  have := div_in (p := sG c t k + d) (n := c.page) (x := m * nth c.cl k + nth c.cl k - 1) (by omega) (by omega) (by omega)
  rwa [show (sG c t k + d) * c.page + (m * nth c.cl k + nth c.cl k - 1) = (sG c t k + d) * c.page + m * nth c.cl k + nth c.cl k - 1 by omega] at this
theorem InPage.ahead {c : Conf} {t k : Nat} {s d m : Int} (h : InPage c t s k d m) : aheadP c t (sG c t k + d) k = d * perOf c k := by
  have _ := h
  unfold aheadP
  rw [show sG c t k + d - sG c t k = d by omega]
theorem InPage.first {c : Conf} {t k : Nat} {s d m : Int} (h : InPage c t s k d m) : firstP c t (sG c t k + d) k + m = s ∧ m < manyP c t (sG c t k + d) k := by
  have ha := h.ahead
  have e := h.eq
  have l := h.lt
  have mp := h.mP
  unfold firstP manyP
  rw [ha]
  refine ⟨by omega, ?_⟩
  split <;> omega
theorem InPage.isAt {c : Conf} {t k N : Nat} {s d m : Int} (h : InPage c t s k d m) (hN : manyP c t (sG c t k + d) k = N) : IsAt c t (sG c t k + d) k N (addrOf c t s k) s 0 := by
  have f := h.first
  have m0 := h.m0
  have hm : ((m.toNat : Nat) : Int) = m := by omega
  exact .inl ⟨m.toNat, by omega, by rw [hm, h.ad], by rw [hm]; exact f.1.symm, rfl⟩

theorem sG_mono {c : Conf} (ho : KOk c) {t : Nat} (ht : t < c.ts.length) {a b : Nat} (hab : a ≤ b) (hb : b ≤ c.cl.length) : sG c t a + ((b - a : Nat) : Int) ≤ sG c t b := sumTo_lt (ho.pages1 ht) hab hb
theorem sS_mono {c : Conf} (ho : KOk c) {t : Nat} (ht : t < c.ts.length) {a b : Nat} (hab : a ≤ b) (hb : b ≤ c.cl.length) : sS c t a + ((b - a : Nat) : Int) ≤ sS c t b := sumTo_lt (ho.slots1 ht) hab hb
theorem AtClass.uniq {c : Conf} (ho : KOk c) {t : Nat} (ht : t < c.ts.length) {s : Int} {k j : Nat} (h : AtClass c t s k) (h' : AtClass c t s j) : k = j := by
  have a := h.lo; have b := h.hi; have a' := h'.lo; have b' := h'.hi; have l := h.lt; have l' := h'.lt
  rcases Nat.lt_trichotomy k j with g | g | g
  · have := sS_mono ho ht (a := k + 1) (b := j) g (by omega); omega
  · exact g
  · have := sS_mono ho ht (a := j + 1) (b := k) g (by omega); omega
theorem AtPage.uniq {c : Conf} (ho : KOk c) {t : Nat} (ht : t < c.ts.length) {s : Int} {k j : Nat} (h : AtPage c t s k) (h' : AtPage c t s j) : k = j := by
  have a := h.lo; have b := h.hi; have a' := h'.lo; have b' := h'.hi; have l := h.lt; have l' := h'.lt
  rcases Nat.lt_trichotomy k j with g | g | g
  · have := sG_mono ho ht (a := k + 1) (b := j) g (by omega); omega
  · exact g
  · have := sG_mono ho ht (a := j + 1) (b := k) g (by omega); omega

/-- A later slot lies behind the slot before it. -/
theorem slots_apart {c : Conf} (ho : KOk c) {t : Nat} (ht : t < c.ts.length) {s s' : Int} {k k' : Nat} (h : AtClass c t s k) (h' : AtClass c t s' k') (hs : s < s') : addrOf c t s k + nth c.cl k ≤ addrOf c t s' k' := by
  obtain ⟨d, m, q⟩ := h.inPage ho ht
  obtain ⟨d', m', q'⟩ := h'.inPage ho ht
  have i1 := q.inside ho ht h.lt
  have i2 := q'.inside ho ht h'.lt
  have pg1 : 1 ≤ c.page := by have := (ho.bounds ht h.lt).c2; omega
  have far : ∀ {x y : Int}, x + 1 ≤ y → x * c.page + c.page ≤ y * c.page := fun {x y} hxy => by
    have := Int.mul_le_mul_of_nonneg_right hxy (by omega : 0 ≤ c.page)
    rwa [Int.add_mul, Int.one_mul] at this
  rw [q.ad, q'.ad]
  have kk : k ≤ k' := by
    rcases Nat.lt_or_ge k' k with g | g
    · have := sS_mono ho ht (a := k' + 1) (b := k) g (by have := h.lt; omega)
      have := h'.hi; have := h.lo; omega
    · exact g
  rcases Nat.lt_or_ge k k' with g | g
  · have g1 := sG_mono ho ht (a := k + 1) (b := k') g (by have := h'.lt; omega)
    have g2 : sG c t (k + 1) = sG c t k + pagesOf c t k := rfl
    have := far (x := sG c t k + d) (y := sG c t k' + d') (by have := q.dP; have := q'.d0; omega)
    omega
  · have e : k' = k := by omega
    subst e
    have e1 := q.eq; have e2 := q'.eq
    have p1 := (ho.bounds ht h.lt).per1
    have dd : d ≤ d' := by
      rcases Int.lt_or_le d' d with g | g
      · have := Int.mul_le_mul_of_nonneg_right (show d' + 1 ≤ d by omega) (by omega : 0 ≤ perOf c k')
        rw [Int.add_mul] at this
        have := q'.mP; have := q.m0; omega
      · exact g
    rcases Int.lt_or_le d d' with g | g
    · have := far (x := sG c t k' + d) (y := sG c t k' + d') (by omega)
      omega
    · have e3 : d' = d := by omega
      subst e3
      have := Int.mul_le_mul_of_nonneg_right (show m + 1 ≤ m' by omega) (by have := (ho.bounds ht h.lt).c2; omega : 0 ≤ nth c.cl k')
      rw [Int.add_mul, Int.one_mul] at this
      omega
/-- All slots lie in the region. -/
theorem slots_within {c : Conf} (ho : KOk c) {t : Nat} (ht : t < c.ts.length) {s : Int} {k : Nat} (h : AtClass c t s k) : 0 ≤ addrOf c t s k ∧ addrOf c t s k + nth c.cl k ≤ sG c t c.cl.length * c.page := by
  obtain ⟨d, m, q⟩ := h.inPage ho ht
  have i1 := q.inside ho ht h.lt
  have pg1 : 1 ≤ c.page := by have := (ho.bounds ht h.lt).c2; omega
  have g1 := sG_mono ho ht (a := k + 1) (b := c.cl.length) h.lt (Nat.le_refl _)
  have g2 : sG c t (k + 1) = sG c t k + pagesOf c t k := rfl
  have g3 := (ho.sG_le ht (k := k) (by have := h.lt; omega)).1
  have d0 := q.d0
  have h1 := Int.mul_le_mul_of_nonneg_right (show sG c t k + d + 1 ≤ sG c t c.cl.length by have := q.dP; omega) (by omega : 0 ≤ c.page)
  rw [Int.add_mul, Int.one_mul] at h1
  have h2 := Int.mul_nonneg (show 0 ≤ sG c t k + d by omega) (by omega : 0 ≤ c.page)
  rw [q.ad]
  omega
/-- An address is a slot's, or no slot's. -/
theorem addr_cases {c : Conf} (ho : KOk c) {t k N : Nat} (ht : t < c.ts.length) {a p : Int} (hp : a / c.page = p) (hk : AtPage c t p k) (hN : manyP c t p k = N) :
    (∃ s, AtClass c t s k ∧ addrOf c t s k = a ∧ IsAt c t p k N a s 0) ∨ ((∀ s j, AtClass c t s j → addrOf c t s j ≠ a) ∧ IsAt c t p k N a 0 7) := by
  by_cases he : ∃ j : Nat, j < N ∧ p * c.page + j * nth c.cl k = a
  · obtain ⟨j, h1, h2⟩ := he
    have ab := ahead_bd ho ht hk
    have hj : (j : Int) < perOf c k ∧ aheadP c t p k + j < slotsOf c t k := by
      unfold manyP at hN; split at hN <;> omega
    have AC : AtClass c t (firstP c t p k + j) k := ⟨hk.lt, by unfold firstP; omega, by unfold firstP; have : sS c t (k + 1) = sS c t k + slotsOf c t k := rfl; omega⟩
    refine .inl ⟨firstP c t p k + j, AC, ?_, .inl ⟨j, h1, h2, rfl, rfl⟩⟩
    obtain ⟨d, m, q⟩ := AC.inPage ho ht
    have e := q.eq
    have p1 := (ho.bounds ht hk.lt).per1
    have hd : (p - sG c t k) * perOf c k + j = d * perOf c k + m := by unfold firstP aheadP at e; omega
    have d1 : ((p - sG c t k) * perOf c k + j) / perOf c k = p - sG c t k := div_in p1 (by omega) hj.1
    have d2 : (d * perOf c k + m) / perOf c k = d := div_in p1 q.m0 q.mP
    have hdd : d = p - sG c t k := by rw [hd] at d1; omega
    have hm : m = j := by rw [hdd] at hd; omega
    rw [q.ad, hdd, hm, show sG c t k + (p - sG c t k) = p by omega, h2]
  · refine .inr ⟨fun s j AC e => he ?_, .inr ⟨fun j h1 h2 => he ⟨j, h1, h2⟩, rfl, rfl⟩⟩
    obtain ⟨d, m, q⟩ := AC.inPage ho ht
    have dv := (q.divs ho ht AC.lt).1
    rw [e, hp] at dv
    have hpg := q.page AC.lt
    rw [← dv] at hpg
    obtain rfl := hpg.uniq ho ht hk
    have f := q.first
    have m0 := q.m0
    rw [← dv] at f
    have hm : ((m.toNat : Nat) : Int) = m := by omega
    refine ⟨m.toNat, by omega, ?_⟩
    rw [hm, ← e, q.ad, ← dv]

/-- Addresses counted: the slots below an address. -/
structure Found (c : Conf) (t : Nat) (a f : Int) : Prop where
  f0 : 0 ≤ f
  fS : f ≤ sS c t c.cl.length
  below : ∀ s k, AtClass c t s k → s < f → addrOf c t s k < a
  above : ∀ s k, AtClass c t s k → f ≤ s → a ≤ addrOf c t s k
theorem Found.start {c : Conf} (ho : KOk c) {t : Nat} (ht : t < c.ts.length) : Found c t (-1) 0 :=
  ⟨Int.le_refl _, by have := (ho.sS_le ht (Nat.le_refl _)).1; omega, fun s k h hs => by
    have := (ho.sS_le ht (k := k) (by have := h.lt; omega)).1; have := h.lo; omega, fun s k h _ => by have := (slots_within ho ht h).1; omega⟩
theorem Found.hit {c : Conf} (ho : KOk c) {t : Nat} (ht : t < c.ts.length) {a f s : Int} {k : Nat} (h : Found c t a f) (hs : AtClass c t s k) (he : addrOf c t s k = a) : Found c t (a + 1) (f + 1) := by
  have h1 : f ≤ s := by
    rcases Int.lt_or_le s f with g | g
    · have := h.below s k hs g; omega
    · exact g
  have sS1 : s < sS c t c.cl.length := by
    have := sS_mono ho ht (a := k + 1) (b := c.cl.length) hs.lt (Nat.le_refl _); have := hs.hi; omega
  have h2 : s = f := by
    rcases Int.lt_or_le f s with g | g
    · obtain ⟨j, hj⟩ := atClass_find (c := c) (t := t) h.f0 (by omega : f < sS c t c.cl.length)
      have := h.above f j hj (Int.le_refl _)
      have := slots_apart ho ht hj hs g
      have := (ho.bounds ht hj.lt).c2
      omega
    · omega
  subst h2
  refine ⟨by have := h.f0; omega, by omega, fun x j hx hl => ?_, fun x j hx hl => ?_⟩
  · rcases Int.lt_or_le x s with g | g
    · have := h.below x j hx g; omega
    · obtain rfl : x = s := by omega
      obtain rfl := hx.uniq ho ht hs
      omega
  · have := slots_apart ho ht hs hx (by omega)
    have := (ho.bounds ht hs.lt).c2
    omega
theorem Found.miss {c : Conf} {t : Nat} {a f : Int} (h : Found c t a f) (hn : ∀ s k, AtClass c t s k → addrOf c t s k ≠ a) : Found c t (a + 1) f :=
  ⟨h.f0, h.fS, fun s k hs hl => by have := h.below s k hs hl; omega, fun s k hs hl => by have := h.above s k hs hl; have := hn s k hs; omega⟩
theorem Found.all {c : Conf} (ho : KOk c) {t : Nat} (ht : t < c.ts.length) {a f : Int} (h : Found c t a f) (ha : sG c t c.cl.length * c.page ≤ a) : f = sS c t c.cl.length := by
  rcases Int.lt_or_le f (sS c t c.cl.length) with g | g
  · obtain ⟨j, hj⟩ := atClass_find h.f0 g
    have := h.above f j hj (Int.le_refl _)
    have := slots_within ho ht hj
    have := (ho.bounds ht hj.lt).c2
    omega
  · have := h.fS; omega

/-- Where a page's slots begin; behind the last page: all slots. -/
def PgStart (c : Conf) (t : Nat) (p x : Int) : Prop := (∃ k, AtPage c t p k ∧ x = firstP c t p k) ∨ (p = sG c t c.cl.length ∧ x = sS c t c.cl.length)
theorem pgStart_at {c : Conf} (ho : KOk c) {t : Nat} (ht : t < c.ts.length) (k : Nat) (hk : k ≤ c.cl.length) : PgStart c t (sG c t k) (sS c t k) := by
  rcases Nat.lt_or_ge k c.cl.length with g | g
  · refine .inl ⟨k, ⟨g, Int.le_refl _, ?_⟩, ?_⟩
    · have : sG c t (k + 1) = sG c t k + pagesOf c t k := rfl
      have := (ho.bounds ht g).pg1; omega
    · unfold firstP aheadP; simp
  · obtain rfl : k = c.cl.length := by omega
    exact .inr ⟨rfl, rfl⟩
theorem pgStart_next {c : Conf} (ho : KOk c) {t k : Nat} (ht : t < c.ts.length) {p : Int} (h : AtPage c t p k) : PgStart c t (p + 1) (firstP c t p k + manyP c t p k) := by
  have e1 : sG c t (k + 1) = sG c t k + pagesOf c t k := rfl
  have e2 : sS c t (k + 1) = sS c t k + slotsOf c t k := rfl
  have lo := h.lo; have hi := h.hi
  have p1 := (ho.bounds ht h.lt).per1
  rcases Int.lt_or_le (p + 1) (sG c t (k + 1)) with g | g
  · have hn : AtPage c t (p + 1) k := ⟨h.lt, by omega, g⟩
    have ab := ahead_bd ho ht hn
    have ea : aheadP c t (p + 1) k = aheadP c t p k + perOf c k := by
      unfold aheadP; rw [show p + 1 - sG c t k = p - sG c t k + 1 by omega, Int.add_mul, Int.one_mul]
    refine .inl ⟨k, hn, ?_⟩
    unfold firstP manyP
    rw [ea] at ab ⊢
    rw [if_neg (by omega)]
    omega
  · have hp1 : p + 1 = sG c t (k + 1) := by omega
    rw [hp1]
    have hl : slotsOf c t k ≤ aheadP c t p k + perOf c k := by
      have hpg : pagesOf c t k = p - sG c t k + 1 := by omega
      have hle : ¬ (p - sG c t k + 1 + 1 ≤ (slotsOf c t k + perOf c k - 1) / perOf c k) := by unfold pagesOf at hpg; omega
      rw [Int.le_ediv_iff_mul_le (by omega), Int.add_mul, Int.add_mul, Int.one_mul] at hle
      unfold aheadP
      omega
    have hm : firstP c t p k + manyP c t p k = sS c t (k + 1) := by
      unfold firstP manyP; split <;> omega
    rw [hm]
    exact pgStart_at ho ht (k + 1) h.lt
theorem page_slots {c : Conf} (ho : KOk c) {t k : Nat} (ht : t < c.ts.length) {p : Int} (h : AtPage c t p k) :
    1 ≤ manyP c t p k ∧ AtClass c t (firstP c t p k) k ∧ AtClass c t (firstP c t p k + manyP c t p k - 1) k := by
  have ab := ahead_bd ho ht h
  have p1 := (ho.bounds ht h.lt).per1
  have e2 : sS c t (k + 1) = sS c t k + slotsOf c t k := rfl
  have hm : manyP c t p k = slotsOf c t k - aheadP c t p k ∨ (manyP c t p k = perOf c k ∧ perOf c k ≤ slotsOf c t k - aheadP c t p k) := by
    unfold manyP; split <;> omega
  refine ⟨?_, ⟨h.lt, ?_, ?_⟩, ⟨h.lt, ?_, ?_⟩⟩ <;> (try unfold firstP) <;> omega

end Go.Proofs.YtlhajoamebfniaaDoor

/-! The document's slots in plain Lean: each slot's class, size, address and page; each page's first slot and how many it has. No program is named here. -/
namespace Go.Proofs.YtlhajoamebfniaaDoor
open Go.RowKit

theorem InPage.of {c : Conf} {t k : Nat} {d i : Nat} (bd : Bounds c t k) (hi : (i : Int) < perOf c k) (hd : (d : Int) * perOf c k + i < slotsOf c t k) (hp : (d : Int) < pagesOf c t k) : InPage c t (sS c t k + d * perOf c k + i) k d i := by
  have p1 := bd.per1
  have e : atOf c t (sS c t k + d * perOf c k + i) k = d * perOf c k + i := by unfold atOf; omega
  have e1 : (d * perOf c k + (i : Int)) / perOf c k = d := by
    rw [Int.add_comm, Int.add_mul_ediv_right _ _ (by omega), Int.ediv_eq_zero_of_lt (by omega) hi]; omega
  have e2 : (d * perOf c k + (i : Int)) % perOf c k = i := by
    rw [Int.add_comm, Int.add_mul_emod_self_right, Int.emod_eq_of_lt (by omega) hi]
  have pg : pageOf c t (sS c t k + d * perOf c k + i) k = sG c t k + d := by unfold pageOf; rw [e, e1]
  exact ⟨rfl, by omega, hp, by omega, hi, hd, pg, by unfold addrOf; rw [pg, e, e2]⟩

/-- A slot's class; a page's. -/
def kOf (c : Conf) (t : Nat) (s : Int) : Nat := ((List.range c.cl.length).find? fun k => decide (s < sS c t (k + 1))).getD 0
def kpOf (c : Conf) (t : Nat) (p : Int) : Nat := ((List.range c.cl.length).find? fun k => decide (p < sG c t (k + 1))).getD 0
theorem AtClass.kOf {c : Conf} (ho : KOk c) {t : Nat} (ht : t < c.ts.length) {s : Int} {k : Nat} (h : AtClass c t s k) : kOf c t s = k := by
  have : (List.range c.cl.length).find? (fun k => decide (s < sS c t (k + 1))) = some k := by
    rw [List.find?_range_eq_some]
    refine ⟨by simpa using h.hi, by simpa using h.lt, fun j hj => ?_⟩
    have := sS_mono ho ht (a := j + 1) (b := k) (by omega) (by have := h.lt; omega)
    have := h.lo
    simp; omega
  unfold Go.Proofs.YtlhajoamebfniaaDoor.kOf; rw [this]; rfl
theorem AtPage.kpOf {c : Conf} (ho : KOk c) {t : Nat} (ht : t < c.ts.length) {p : Int} {k : Nat} (h : AtPage c t p k) : kpOf c t p = k := by
  have : (List.range c.cl.length).find? (fun k => decide (p < sG c t (k + 1))) = some k := by
    rw [List.find?_range_eq_some]
    refine ⟨by simpa using h.hi, by simpa using h.lt, fun j hj => ?_⟩
    have := sG_mono ho ht (a := j + 1) (b := k) (by omega) (by have := h.lt; omega)
    have := h.lo
    simp; omega
  unfold Go.Proofs.YtlhajoamebfniaaDoor.kpOf; rw [this]; rfl

def slc (c : Conf) (t : Nat) (s : Int) : List Value := [.int .i64 (kOf c t s), .int .i64 (nth c.cl (kOf c t s)), .int .i64 (addrOf c t s (kOf c t s)), .int .i64 (pageOf c t s (kOf c t s))]
def slcs (c : Conf) (t : Nat) : Nat → List Value
  | 0 => []
  | n + 1 => slcs c t n ++ slc c t n
theorem slcs_len (c : Conf) (t : Nat) : ∀ n, (slcs c t n).length = n * 4
  | 0 => rfl
  | n + 1 => by show (slcs c t n ++ slc c t n).length = _; rw [List.length_append, slcs_len c t n]; simp [slc]; omega
theorem slcs_at (c : Conf) (t : Nat) : ∀ n i j, i < n → j < 4 → (slcs c t n)[i * 4 + j]? = (slc c t i)[j]?
  | 0, i, j, hi, _ => absurd hi (Nat.not_lt_zero _)
  | n + 1, i, j, hi, hj => by
    show (slcs c t n ++ slc c t n)[i * 4 + j]? = _
    by_cases e : i < n
    · rw [List.getElem?_append_left (by rw [slcs_len]; omega)]; exact slcs_at c t n i j e hj
    · obtain rfl : i = n := by omega
      rw [List.getElem?_append_right (by rw [slcs_len]; omega), slcs_len]
      congr 1; omega
theorem slc_one (c : Conf) (t : Nat) (s : Int) : ∀ u ∈ slc c t s, u.oneCell' = true := by
  intro u h
  simp only [slc, List.mem_cons, List.not_mem_nil, or_false] at h
  rcases h with rfl | rfl | rfl | rfl <;> rfl

/-- The pages' first slots, and how many they have. -/
def firsts (c : Conf) (t n : Nat) : List Int := (List.range n).map fun (p : Nat) => firstP c t (p : Int) (kpOf c t (p : Int))
def manys (c : Conf) (t n : Nat) : List Int := (List.range n).map fun (p : Nat) => manyP c t (p : Int) (kpOf c t (p : Int))
theorem firsts_len (c : Conf) (t n : Nat) : (firsts c t n).length = n := by simp [firsts]
theorem manys_len (c : Conf) (t n : Nat) : (manys c t n).length = n := by simp [manys]
theorem firsts_succ (c : Conf) (t n : Nat) : firsts c t (n + 1) = firsts c t n ++ [firstP c t (n : Int) (kpOf c t n)] := by unfold firsts; rw [List.range_succ, List.map_append]; rfl
theorem manys_succ (c : Conf) (t n : Nat) : manys c t (n + 1) = manys c t n ++ [manyP c t (n : Int) (kpOf c t n)] := by unfold manys; rw [List.range_succ, List.map_append]; rfl
theorem nth_firsts {c : Conf} {t n p : Nat} (h : p < n) : nth (firsts c t n) p = firstP c t p (kpOf c t p) := by simp [nth, List.getD, firsts, h]
theorem nth_manys {c : Conf} {t n p : Nat} (h : p < n) : nth (manys c t n) p = manyP c t p (kpOf c t p) := by simp [nth, List.getD, manys, h]

end Go.Proofs.YtlhajoamebfniaaDoor

/-! commonageref09: the document's plan: its shape, and what New's loops keep. -/
namespace Go.Proofs.YtlhajoamebfniaaDoor
open Go.RowKit

/-- How many slots, pages a plan has. -/
def nS (c : Conf) (t : Nat) : Nat := (sS c t c.cl.length).toNat
def nG (c : Conf) (t : Nat) : Nat := (sG c t c.cl.length).toNat
theorem KOk.nS_eq {c : Conf} (h : KOk c) {t : Nat} (ht : t < c.ts.length) : (nS c t : Int) = sS c t c.cl.length := by
  have := (h.sS_le ht (Nat.le_refl _)).1
  unfold nS; omega
theorem KOk.nG_eq {c : Conf} (h : KOk c) {t : Nat} (ht : t < c.ts.length) : (nG c t : Int) = sG c t c.cl.length := by
  have := (h.sG_le ht (Nat.le_refl _)).1
  unfold nG; omega

/-- The document's plan in the memory: its slots from lb on, its pages' first slots, and how many they have. -/
structure DPlan (w : World) (lb fb mb : Nat) (ca : Option Addr) (c : Conf) (t : Nat) : Prop where
  ok : KOk c
  ti : t < c.ts.length
  l : ∀ s, s < nS c t → ∀ j u, (slc c t (s : Int))[j]? = some u → w.cell? ⟨lb, s * 4 + j, none⟩ = some u
  f : At .i64 w (some ⟨fb, 0, none⟩) (firsts c t (nG c t))
  m : At .i64 w (some ⟨mb, 0, none⟩) (manys c t (nG c t))
  k : At .i64 w ca c.cl
/-- The plan's value. -/
def dpv (lb lc fb fc mb mc : Nat) (ca : Option Addr) (cc : Nat) (c : Conf) (t : Nat) : Value :=
  .agg #[.slice (some ⟨lb, 0, none⟩) (nS c t) lc, .slice (some ⟨fb, 0, none⟩) (nG c t) fc, .slice (some ⟨mb, 0, none⟩) (nG c t) mc, .int .i64 (wordsOf c t), .slice ca c.cl.length cc]
theorem DPlan.chg {P : Nat → Prop} {w w' : World} {lb fb mb : Nat} {ca : Option Addr} {c : Conf} {t : Nat} (h : DPlan w lb fb mb ca c t) (hx : Ext w w') : DPlan w' lb fb mb ca c t :=
  ⟨h.ok, h.ti, fun s hs j u hu => hx.cell (h.l s hs j u hu), h.f.ext hx, h.m.ext hx, h.k.ext hx⟩
theorem DPlan.ext {w w' : World} {lb fb mb : Nat} {ca : Option Addr} {c : Conf} {t : Nat} (h : DPlan w lb fb mb ca c t) (hx : Ext w w') : DPlan w' lb fb mb ca c t :=
  ⟨h.ok, h.ti, fun s hs j u hu => hx.cell (h.l s hs j u hu), h.f.ext hx, h.m.ext hx, h.k.ext hx⟩

/-- What New's loops keep: slots, first slots, numbers so far. -/
structure DocR (w0 : World) (c : Conf) (t b n p q : Nat) (ca : Option Addr) (cc : Nat) (wo : Int) (lv fv mv : Value) (wr : World) : Prop where
  c0 : wr.cell? ⟨b, 0, none⟩ = some lv
  c1 : wr.cell? ⟨b, 1, none⟩ = some fv
  c2 : wr.cell? ⟨b, 2, none⟩ = some mv
  c3 : wr.cell? ⟨b, 3, none⟩ = some (.int .i64 wo)
  c4 : wr.cell? ⟨b, 4, none⟩ = some (.slice ca c.cl.length cc)
  ol : wr.ownsRow (b + 1) 44 4 lv n (slcs c t n)
  of : wr.ownsRow (b + 1) 3 1 fv p (ncs .i64 (firsts c t p))
  om : wr.ownsRow (b + 1) 3 1 mv q (ncs .i64 (manys c t q))
  nfm : ∀ g, fv.ownBlock = some g → mv.ownBlock ≠ some g
  fz : ∀ o, wr.frozen? ⟨b, o, none⟩ = false
  lo : w0.heap.size ≤ b
  ext : Ext w0 wr
variable {w0 wr w3 W w4 w' : World} {c : Conf} {t b n p q : Nat} {ca : Option Addr} {cc : Nat} {wo : Int} {lv fv mv V : Value}
theorem DocR.go (h : DocR w0 c t b n p q ca cc wo lv fv mv wr) (hx : Ext wr w') : DocR w0 c t b n p q ca cc wo lv fv mv w' :=
  ⟨hx.cell h.c0, hx.cell h.c1, hx.cell h.c2, hx.cell h.c3, hx.cell h.c4, own_ext h.ol hx, own_ext h.of hx, own_ext h.om hx, h.nfm, fun o => by rw [hx.frozen (p := ⟨b, o, none⟩) (show b < wr.heap.size from cell_lt h.c0)]; exact h.fz o, h.lo, h.ext.trans hx⟩
/-- Rows of other kinds have blocks of their own. -/
theorem own_ne {w : World} {base e e' s s' k k' : Nat} {v v' : Value} {xs xs' : List Value} (h : w.ownsRow base e s v k xs) (h' : w.ownsRow base e' s' v' k' xs') (hne : e ≠ e') : v.ownBlock = none ∨ v.ownBlock ≠ v'.ownBlock := by
  rcases h.2 with ⟨rfl, _⟩ | ⟨g, cap, cur, rfl, _, hh, _⟩
  · exact .inl rfl
  · refine .inr fun e0 => ?_
    rcases h'.2 with ⟨rfl, _⟩ | ⟨g', cap', cur', rfl, _, hh', _⟩
    · cases e0
    · have : g = g' := by simpa [Value.ownBlock] using e0
      subst this
      rw [hh] at hh'
      injection hh' with e1
      injection e1 with _ e2 _
      exact hne e2
theorem DocR.nb (h : DocR w0 c t b n p q ca cc wo lv fv mv wr) {v : Value} {e s k : Nat} {xs : List Value} (hv : wr.ownsRow (b + 1) e s v k xs) : some b ≠ v.ownBlock := fun e => by
  have := (hv.lt b e.symm).1; omega
/-- The cells of the box behind an append. -/
theorem DocR.grown (h : DocR w0 c t b n p q ca cc wo lv fv mv w3) {v : Value} {e s k : Nat} {xs : List Value} (hv : w3.ownsRow (b + 1) e s v k xs) (hx : Ext w3 W) (hg : W.grownBy w4 v.ownBlock) :
    w4.cell? ⟨b, 0, none⟩ = some lv ∧ w4.cell? ⟨b, 1, none⟩ = some fv ∧ w4.cell? ⟨b, 2, none⟩ = some mv ∧ w4.cell? ⟨b, 3, none⟩ = some (.int .i64 wo) ∧ w4.cell? ⟨b, 4, none⟩ = some (.slice ca c.cl.length cc) ∧ (∀ o, w4.frozen? ⟨b, o, none⟩ = false) ∧ Ext w0 w4 := by
  have n0 := h.nb hv
  have hl : b < w3.heap.size := cell_lt h.c0
  refine ⟨grow_cell hg hx h.c0 n0, grow_cell hg hx h.c1 n0, grow_cell hg hx h.c2 n0, grow_cell hg hx h.c3 n0, grow_cell hg hx h.c4 n0, fun o => ?_, (h.ext.trans hx).grown hg fun k' e => by have := (hv.lt k' e).1; have := h.lo; omega⟩
  rw [hg.frozen_far _ (Nat.lt_of_lt_of_le hl hx.size) n0, hx.frozen (p := ⟨b, o, none⟩) hl]; exact h.fz o
theorem set_same {w : World} {b i : Nat} {u v : Value} (hc : w.cell? ⟨b, i, none⟩ = some v) : (w.setCell ⟨b, i, none⟩ u).cell? ⟨b, i, none⟩ = some u := World.cell?_setCell_same w _ _ hc
theorem set_oth {w : World} {b i j : Nat} {u v : Value} (h : i ≠ j) (hc : w.cell? ⟨b, j, none⟩ = some v) : (w.setCell ⟨b, i, none⟩ u).cell? ⟨b, j, none⟩ = some v := by
  have := World.cell?_setCell_other w ⟨b, i, none⟩ ⟨b, j, none⟩ u (by intro e; cases e; exact h rfl)
  rw [this]; exact hc
/-- One more slot. -/
theorem DocR.pushL (h : DocR w0 c t b n p q ca cc wo lv fv mv w3) (hx : Ext w3 W) (hg : W.grownBy w4 lv.ownBlock) (hown : w4.ownsRow (b + 1) 44 4 V (n + 1) (slcs c t (n + 1))) :
    DocR w0 c t b (n + 1) p q ca cc wo V fv mv (w4.setCell ⟨b, 0, none⟩ V) := by
  obtain ⟨q0, q1, q2, q3, q4, qf, qe⟩ := h.grown h.ol hx hg
  have kf := (own_ext h.of hx).kept hg (own_ne h.of h.ol (by decide))
  have km := (own_ext h.om hx).kept hg (own_ne h.om h.ol (by decide))
  exact ⟨set_same q0, set_oth (by decide) q1, set_oth (by decide) q2, set_oth (by decide) q3, set_oth (by decide) q4, own_setCell hown (p := ⟨b, 0, none⟩) (Nat.lt_succ_self b) _, own_setCell kf (p := ⟨b, 0, none⟩) (Nat.lt_succ_self b) _, own_setCell km (p := ⟨b, 0, none⟩) (Nat.lt_succ_self b) _, h.nfm,
    fun o => by simpa using qf o, h.lo, qe.setCell (p := ⟨b, 0, none⟩) h.lo _⟩
/-- One more first slot. -/
theorem DocR.pushF (h : DocR w0 c t b n p q ca cc wo lv fv mv w3) (hx : Ext w3 W) (hg : W.grownBy w4 fv.ownBlock) (hown : w4.ownsRow (b + 1) 3 1 V (p + 1) (ncs .i64 (firsts c t (p + 1)))) (hV : ∀ g, V.ownBlock = some g → fv.ownBlock = some g ∨ W.heap.size ≤ g) :
    DocR w0 c t b n (p + 1) q ca cc wo lv V mv (w4.setCell ⟨b, 1, none⟩ V) := by
  obtain ⟨q0, q1, q2, q3, q4, qf, qe⟩ := h.grown h.of hx hg
  have nm : mv.ownBlock = none ∨ mv.ownBlock ≠ fv.ownBlock := by
    cases e : mv.ownBlock with
    | none => exact .inl rfl
    | some g => exact .inr fun e' => h.nfm g e'.symm e
  have kl := (own_ext h.ol hx).kept hg (own_ne h.ol h.of (by decide))
  have km := (own_ext h.om hx).kept hg nm
  refine ⟨set_oth (by decide) q0, set_same q1, set_oth (by decide) q2, set_oth (by decide) q3, set_oth (by decide) q4, own_setCell kl (p := ⟨b, 1, none⟩) (Nat.lt_succ_self b) _, own_setCell hown (p := ⟨b, 1, none⟩) (Nat.lt_succ_self b) _, own_setCell km (p := ⟨b, 1, none⟩) (Nat.lt_succ_self b) _, fun g e e' => ?_,
    fun o => by simpa using qf o, h.lo, qe.setCell (p := ⟨b, 1, none⟩) h.lo _⟩
  rcases hV g e with h1 | h1
  · exact h.nfm g h1 e'
  · have := (h.om.lt g e').2; have := hx.size; omega
/-- One more number. -/
theorem DocR.pushM (h : DocR w0 c t b n p q ca cc wo lv fv mv w3) (hx : Ext w3 W) (hg : W.grownBy w4 mv.ownBlock) (hown : w4.ownsRow (b + 1) 3 1 V (q + 1) (ncs .i64 (manys c t (q + 1)))) (hV : ∀ g, V.ownBlock = some g → mv.ownBlock = some g ∨ W.heap.size ≤ g) :
    DocR w0 c t b n p (q + 1) ca cc wo lv fv V (w4.setCell ⟨b, 2, none⟩ V) := by
  obtain ⟨q0, q1, q2, q3, q4, qf, qe⟩ := h.grown h.om hx hg
  have nm : fv.ownBlock = none ∨ fv.ownBlock ≠ mv.ownBlock := by
    cases e : fv.ownBlock with
    | none => exact .inl rfl
    | some g => exact .inr fun e' => h.nfm g e e'.symm
  have kl := (own_ext h.ol hx).kept hg (own_ne h.ol h.om (by decide))
  have kf := (own_ext h.of hx).kept hg nm
  refine ⟨set_oth (by decide) q0, set_oth (by decide) q1, set_same q2, set_oth (by decide) q3, set_oth (by decide) q4, own_setCell kl (p := ⟨b, 2, none⟩) (Nat.lt_succ_self b) _, own_setCell kf (p := ⟨b, 2, none⟩) (Nat.lt_succ_self b) _, own_setCell hown (p := ⟨b, 2, none⟩) (Nat.lt_succ_self b) _, fun g e e' => ?_,
    fun o => by simpa using qf o, h.lo, qe.setCell (p := ⟨b, 2, none⟩) h.lo _⟩
  rcases hV g e' with h1 | h1
  · exact h.nfm g e h1
  · have := (h.of.lt g e).2; have := hx.size; omega
theorem DocR.start (h0 : wr.cell? ⟨b, 0, none⟩ = some (.slice none 0 0)) (h1 : wr.cell? ⟨b, 1, none⟩ = some (.slice none 0 0)) (h2 : wr.cell? ⟨b, 2, none⟩ = some (.slice none 0 0)) (h3 : wr.cell? ⟨b, 3, none⟩ = some (.int .i64 wo)) (h4 : wr.cell? ⟨b, 4, none⟩ = some (.slice ca c.cl.length cc)) (hf : ∀ o, wr.frozen? ⟨b, o, none⟩ = false) (lo : w0.heap.size ≤ b) (hx : Ext w0 wr) :
    DocR w0 c t b 0 0 0 ca cc wo (.slice none 0 0) (.slice none 0 0) (.slice none 0 0) wr :=
  ⟨h0, h1, h2, h3, h4, World.ownsRow_nil _ _ _ _, World.ownsRow_nil _ _ _ _, World.ownsRow_nil _ _ _ _, fun _ e => (by cases e), hf, lo, hx⟩
theorem KOk.nG_pos (h : KOk c) (ht : t < c.ts.length) : 1 ≤ nG c t := by
  have h1 := h.nG_eq ht
  have h2 := (h.sG_le ht (k := c.cl.length) (Nat.le_refl _)).1
  have h3 := h.cl.pos
  have := sG_mono h ht (a := 0) (b := c.cl.length) (by omega) (Nat.le_refl _)
  have : sG c t 0 = 0 := rfl
  omega
theorem KOk.nS_pos (h : KOk c) (ht : t < c.ts.length) : 1 ≤ nS c t := by
  have h1 := h.nS_eq ht
  have h3 := h.cl.pos
  have := sS_mono h ht (a := 0) (b := c.cl.length) (by omega) (Nat.le_refl _)
  have : sS c t 0 = 0 := rfl
  omega
theorem DocR.plan (h : DocR w0 c t b (nS c t) (nG c t) (nG c t) ca cc wo lv fv mv wr) (ho : KOk c) (ht : t < c.ts.length) (hk : At .i64 wr ca c.cl) :
    ∃ lb lc fb fc mb mc, lv = .slice (some ⟨lb, 0, none⟩) (nS c t) lc ∧ fv = .slice (some ⟨fb, 0, none⟩) (nG c t) fc ∧ mv = .slice (some ⟨mb, 0, none⟩) (nG c t) mc ∧ DPlan wr lb fb mb ca c t ∧ b < lb ∧ b < fb ∧ b < mb := by
  obtain ⟨lb, lc, rfl, hl, _⟩ := h.ol.form (by have := ho.nS_pos ht; omega)
  obtain ⟨fb, fc, e1, f1, _, _, _, _, f2, _⟩ := own_ints h.of (by have := ho.nG_pos ht; omega)
  obtain ⟨mb, mc, e2, m1, _, _, _, _, m2, _⟩ := own_ints h.om (by have := ho.nG_pos ht; omega)
  subst e1 e2
  refine ⟨lb, lc, fb, fc, mb, mc, rfl, rfl, rfl, ⟨ho, ht, fun s hs j u hu => ?_, f2, m2, hk⟩, hl, f1, m1⟩
  have hj : j < 4 := by have := (List.getElem?_eq_some_iff.1 hu).1; simpa [slc] using this
  rw [h.ol.cellAt _ (by omega), slcs_at c t _ s j hs hj]; exact hu

end Go.Proofs.YtlhajoamebfniaaDoor

/-! Pages, one by one, in plain Lean: what the document's New has done when so many pages of a class are laid. No program is named here. -/
namespace Go.Proofs.YtlhajoamebfniaaDoor
open Go.RowKit

/-- How many slots of a class are left behind d pages. -/
def leftM (S per : Int) (d : Nat) : Int := if (d : Int) * per < S then S - d * per else 0
theorem leftM_zero {S per : Int} (h : 0 ≤ S) : leftM S per 0 = S := by
  unfold leftM; split <;> simp at * <;> omega
structure PageF (c : Conf) (t k d M : Nat) : Prop where
  dP : (d : Int) < pagesOf c t k
  at_ : AtPage c t (sG c t k + d) k
  first : firstP c t (sG c t k + d) k = sS c t k + d * perOf c k
  many : manyP c t (sG c t k + d) k = M
  pos : 1 ≤ M
  per : (M : Int) ≤ perOf c k
  lef : (M : Int) ≤ slotsOf c t k - d * perOf c k
  one : (M : Int) = perOf c k ∨ (M : Int) = slotsOf c t k - d * perOf c k
  next : leftM (slotsOf c t k) (perOf c k) (d + 1) = slotsOf c t k - d * perOf c k - M
theorem pageF {c : Conf} {t k d : Nat} (ho : KOk c) (ht : t < c.ts.length) (hk : k < c.cl.length) (hd : (d : Int) * perOf c k < slotsOf c t k) : ∃ M, PageF c t k d M := by
  have bd := ho.bounds ht hk
  have p1 := bd.per1
  have dP : (d : Int) < pagesOf c t k := by
    have := pages_up (s := slotsOf c t k) (pe := perOf c k) (k := d) p1 hd
    unfold pagesOf; omega
  have hG : sG c t (k + 1) = sG c t k + pagesOf c t k := rfl
  have ap : AtPage c t (sG c t k + d) k := ⟨hk, by omega, by omega⟩
  have ea : aheadP c t (sG c t k + d) k = d * perOf c k := by
    unfold aheadP; rw [show sG c t k + (d : Int) - sG c t k = d by omega]
  have pos := (page_slots ho ht ap).1
  have hm : manyP c t (sG c t k + d) k = if slotsOf c t k - d * perOf c k < perOf c k then slotsOf c t k - d * perOf c k else perOf c k := by unfold manyP; rw [ea]
  refine ⟨(manyP c t (sG c t k + d) k).toNat, dP, ap, by unfold firstP; rw [ea], by omega, by omega, ?_, ?_, ?_, ?_⟩
  · rw [Int.toNat_of_nonneg (by omega), hm]; split <;> omega
  · rw [Int.toNat_of_nonneg (by omega), hm]; split <;> omega
  · rw [Int.toNat_of_nonneg (by omega), hm]; split <;> omega
  · rw [Int.toNat_of_nonneg (by omega), hm]
    have e : ((d + 1 : Nat) : Int) * perOf c k = d * perOf c k + perOf c k := by rw [Int.natCast_add, Int.add_mul]; simp
    unfold leftM
    rw [e]
    split <;> split <;> omega
/-- No slot is left: all pages are laid. -/
theorem pages_all {c : Conf} {t k d : Nat} (ho : KOk c) (ht : t < c.ts.length) (hk : k < c.cl.length) (hd : (d : Int) ≤ pagesOf c t k) (h : ¬ (d : Int) * perOf c k < slotsOf c t k) : (d : Int) = pagesOf c t k := by
  have p1 := (ho.bounds ht hk).per1
  exact pages_end p1 hd (by omega)
theorem PageF.slot {c : Conf} {t k d M m : Nat} (h : PageF c t k d M) (ho : KOk c) (ht : t < c.ts.length) (hm : m < M) {n : Nat} (hn : (n : Int) = sS c t k + d * perOf c k + m) :
    slc c t (n : Int) = [.int .i64 k, .int .i64 (nth c.cl k), .int .i64 ((sG c t k + d) * c.page + m * nth c.cl k), .int .i64 (sG c t k + d)] := by
  have hk := h.at_.lt
  have bd := ho.bounds ht hk
  have ip := InPage.of bd (i := m) (d := d) (by have := h.per; omega) (by have := h.lef; omega) h.dP
  rw [← hn] at ip
  have hc : AtClass c t (n : Int) k := by
    have e : sS c t (k + 1) = sS c t k + slotsOf c t k := rfl
    have h0 : 0 ≤ (d : Int) * perOf c k := Int.mul_nonneg (Int.natCast_nonneg _) (by have := bd.per1; omega)
    have := h.lef
    exact ⟨hk, by omega, by omega⟩
  unfold slc
  rw [hc.kOf ho ht, ip.ad, ip.pg]
theorem PageF.kp {c : Conf} {t k d M : Nat} (h : PageF c t k d M) (ho : KOk c) (ht : t < c.ts.length) {p : Nat} (hp : (p : Int) = sG c t k + d) : kpOf c t (p : Int) = k := by
  have := h.at_
  rw [← hp] at this
  exact this.kpOf ho ht
/-- The least place within a page that is not there. -/
theorem at_in {x per page : Int} {m : Nat} (hx : 2 ≤ x) (hp : per = page / x) (hm : (m : Int) < per) : (m : Int) * x + x ≤ page := by
  have h1 : ((m : Int) + 1) ≤ page / x := by omega
  have h2 := (Int.le_ediv_iff_mul_le (by omega : 0 < x)).1 h1
  rw [Int.add_mul] at h2
  omega
theorem at_out {x per page : Int} {m : Nat} (hx : 2 ≤ x) (hp : per = page / x) (hm : (m : Int) = per) : page < (m : Int) * x + x := by
  have h1 := Int.lt_ediv_add_one_mul_self page (by omega : 0 < x)
  rw [hm, hp]
  rw [Int.add_mul] at h1
  omega

end Go.Proofs.YtlhajoamebfniaaDoor

/-! commonageref09.New: the document's plan. -/
namespace Go.Proofs.YtlhajoamebfniaaDoor
open Go.RowKit

theorem info_slot : (Tryd.prog.info? 44).map (fun i => (i.zero, i.size, i.bytes)) = some (some (.agg #[.int .i64 0, .int .i64 0, .int .i64 0, .int .i64 0]), 4, 32) := by kernel_rfl
theorem info_int9 : (Tryd.prog.info? 3).map (fun i => (i.zero, i.size, i.bytes)) = some (some (.int .i64 0), 1, 8) := by kernel_rfl
theorem own_slice {w : World} {base e s n : Nat} {v : Value} {xs : List Value} (h : w.ownsRow base e s v n xs) : ∃ a cap, v = .slice a n cap := by
  rcases h.2 with ⟨rfl, rfl⟩ | ⟨g, cap, cur, rfl, _⟩
  · exact ⟨none, 0, rfl⟩
  · exact ⟨_, cap, rfl⟩
theorem own_at {g n cap H : Nat} {v : Value} (h : v.ownBlock = some g ∨ g = H) : ∀ g', (Value.slice (some ⟨g, 0, none⟩) n cap).ownBlock = some g' → v.ownBlock = some g' ∨ H ≤ g' := by
  intro g' e
  have : g = g' := by simpa [Value.ownBlock] using e
  subst this
  rcases h with h | h
  · exact .inl h
  · exact .inr (by omega)

theorem newsb9 {W : World} {b : Nat} (v : Value) (t : TypeId) (hb : W.heap.size = b) : ∀ j u, [v][j]? = some u → (W.alloc (.cells #[v] t)).cell? ((⟨b, 0, none⟩ : Addr).add j) = some u := by
  subst hb; exact news1 W v t

theorem DPlan.far {w : World} {lb fb mb x o : Nat} {ca : Option Addr} {c : Conf} {t : Nat} {u : Value} (h : DPlan w lb fb mb ca c t) (h1 : lb ≠ x) (h2 : fb ≠ x) (h3 : mb ≠ x) (h4 : ∀ b o, ca = some ⟨b, o, none⟩ → b ≠ x) : DPlan (w.setCell ⟨x, o, none⟩ u) lb fb mb ca c t := by
  have fa : ∀ {a : Option Addr} {xs : List Int}, (∀ b o, a = some ⟨b, o, none⟩ → b ≠ x) → At .i64 w a xs → At .i64 (w.setCell ⟨x, o, none⟩ u) a xs := fun hne ha i hi => by
    obtain ⟨b', o', e, hc⟩ := ha i hi
    exact ⟨b', o', e, by rw [cell_far _ _ _ _ (show x ≠ b' from Ne.symm (hne b' o' e))]; exact hc⟩
  exact ⟨h.ok, h.ti, fun s hs j v hv => by rw [cell_far _ _ _ _ (show x ≠ lb from Ne.symm h1)]; exact h.l s hs j v hv, fa (fun b o e => by cases e; exact h2) h.f, fa (fun b o e => by cases e; exact h3) h.m, fa h4 h.k⟩

/-- What New hands back. -/
def DocNewC (ca : Option Addr) (cc : Nat) (c : Conf) (t : Nat) (w : World) (e : Ending) (w' : World) : Prop :=
  ∃ lb lc fb fc mb mc, e = .returned (.tuple #[dpv lb lc fb fc mb mc ca cc c t, .int .i64 0]) ∧ DPlan w' lb fb mb ca c t ∧ Ext w w'
def DocNew (c : Conf) (t : Nat) (w : World) (e : Ending) (w' : World) : Prop :=
  ∃ lb lc fb fc mb mc ca cc, e = .returned (.tuple #[dpv lb lc fb fc mb mc ca cc c t, .int .i64 0]) ∧ DPlan w' lb fb mb ca c t ∧ Ext w w'

set_option maxHeartbeats 2000000 in
theorem ref09_New_no {ca ta : Option Addr} {cc tc : Nat} (c : Conf) (t : Int) {w : World} (hn : ¬ there c t 0) (h : CfgAt w ca ta cc tc c) :
    Calls Tryd.prog 48 #[.agg #[.slice ca c.cl.length cc, .int .i64 c.page, .slice ta c.ts.length tc, .int .i64 c.wk, .int .i64 c.gr, .int .i64 c.gens], .int .i64 t] w fun e w' => e = .returned (.tuple #[.agg #[.slice none 0 0, .slice none 0 0, .slice none 0 0, .int .i64 0, .slice none 0 0], .int .i64 2]) ∧ Ext w w' := by
  have h1 := (Ext.refl (w.alloc (.cells #[.slice ca c.cl.length cc, .int .i64 c.page, .slice ta c.ts.length tc, .int .i64 c.wk, .int .i64 c.gr, .int .i64 c.gens] 25))).alloc (.cells #[.slice none 0 0, .slice none 0 0, .slice none 0 0, .int .i64 0, .slice none 0 0] 30)
  have hx := (Ext.refl w).alloc (.cells #[.slice ca c.cl.length cc, .int .i64 c.page, .slice ta c.ts.length tc, .int .i64 c.wk, .int .i64 c.gr, .int .i64 c.gens] 25)
  obtain ⟨z, hz⟩ : ∃ z, w.heap.size = z := ⟨_, rfl⟩
  have BR : Hid (∀ i u, #[Value.slice none 0 0, .slice none 0 0, .slice none 0 0, .int .i64 0, .slice none 0 0][i]? = some u → ((w.alloc (.cells #[.slice ca c.cl.length cc, .int .i64 c.page, .slice ta c.ts.length tc, .int .i64 c.wk, .int .i64 c.gr, .int .i64 c.gens] 25)).alloc (.cells #[.slice none 0 0, .slice none 0 0, .slice none 0 0, .int .i64 0, .slice none 0 0] 30)).cell? ⟨z + 1, i, none⟩ = some u) := Lib.hid fun i u hu => by
    have := cell_newN (w.alloc (.cells #[.slice ca c.cl.length cc, .int .i64 c.page, .slice ta c.ts.length tc, .int .i64 c.wk, .int .i64 c.gr, .int .i64 c.gens] 25)) #[Value.slice none 0 0, .slice none 0 0, .slice none 0 0, .int .i64 0, .slice none 0 0] 30 i
    rw [hu] at this
    rw [show z + 1 = (w.alloc (.cells #[.slice ca c.cl.length cc, .int .i64 c.page, .slice ta c.ts.length tc, .int .i64 c.wk, .int .i64 c.gr, .int .i64 c.gens] 25)).heap.size by simp [hz]]
    exact this
  have FR : Hid (∀ i, ((w.alloc (.cells #[.slice ca c.cl.length cc, .int .i64 c.page, .slice ta c.ts.length tc, .int .i64 c.wk, .int .i64 c.gr, .int .i64 c.gens] 25)).alloc (.cells #[.slice none 0 0, .slice none 0 0, .slice none 0 0, .int .i64 0, .slice none 0 0] 30)).frozen? ⟨z + 1, i, none⟩ = false) := Lib.hid fun i => by
    rw [show z + 1 = (w.alloc (.cells #[.slice ca c.cl.length cc, .int .i64 c.page, .slice ta c.ts.length tc, .int .i64 c.wk, .int .i64 c.gr, .int .i64 c.gens] 25)).heap.size by simp [hz]]
    exact World.frozen?_alloc_at _ _ _ _ rfl
  have R := Lib.hid (kregion_no hn)
  have H := Lib.hid h
  clear h hn
  go_enter Tryd.func48, Tryd.ntmps48
  go_wp2_with fail
  refine (ref06_Region c t 0 2 R.out (H.out.ext (hx.trans h1))).mono ?_
  rintro e w1 ⟨rfl, h2⟩
  have X := hx.trans (h1.trans h2)
  have r0 := h2.cell (BR.out 0 _ rfl); have r1 := h2.cell (BR.out 1 _ rfl); have r2 := h2.cell (BR.out 2 _ rfl); have r3 := h2.cell (BR.out 3 _ rfl); have r4 := h2.cell (BR.out 4 _ rfl)
  have rf : ∀ o, w1.frozen? ⟨z + 1, o, none⟩ = false := fun o => by rw [h2.frozen (p := ⟨z + 1, o, none⟩) (by simp [hz])]; exact FR.out o
  have f0 := rf 0; have f1 := rf 1; have f2 := rf 2; have f3 := rf 3; have f4 := rf 4
  clear rf
  go_wp2_with fail
  have s0 := set_same (w := w1) (u := .slice none 0 0) r0
  have s1 := set_same (w := (w1.setCell ⟨z + 1, 0, none⟩ (.slice none 0 0))) (u := .slice none 0 0) (set_oth (by decide) r1)
  have s2 := set_same (w := ((w1.setCell ⟨z + 1, 0, none⟩ (.slice none 0 0)).setCell ⟨z + 1, 1, none⟩ (.slice none 0 0))) (u := .slice none 0 0) (set_oth (by decide) (set_oth (by decide) r2))
  have s3 := set_same (w := (((w1.setCell ⟨z + 1, 0, none⟩ (.slice none 0 0)).setCell ⟨z + 1, 1, none⟩ (.slice none 0 0)).setCell ⟨z + 1, 2, none⟩ (.slice none 0 0))) (u := .int .i64 0) (set_oth (by decide) (set_oth (by decide) (set_oth (by decide) r3)))
  have s4 := set_same (w := ((((w1.setCell ⟨z + 1, 0, none⟩ (.slice none 0 0)).setCell ⟨z + 1, 1, none⟩ (.slice none 0 0)).setCell ⟨z + 1, 2, none⟩ (.slice none 0 0)).setCell ⟨z + 1, 3, none⟩ (.int .i64 0))) (u := .slice none 0 0) (set_oth (by decide) (set_oth (by decide) (set_oth (by decide) (set_oth (by decide) r4))))
  have e1 : w.heap.size ≤ z + 1 := by omega
  exact bodyPost_ret (v := .tuple #[.agg #[.slice none 0 0, .slice none 0 0, .slice none 0 0, .int .i64 0, .slice none 0 0], .int .i64 2]) (by simp [results, Tryd.results48, go_sem, s0, s1, s2, s3, s4]) rfl ⟨rfl, ((((X.setCell (p := ⟨z + 1, 0, none⟩) e1 _).setCell (p := ⟨z + 1, 1, none⟩) e1 _).setCell (p := ⟨z + 1, 2, none⟩) e1 _).setCell (p := ⟨z + 1, 3, none⟩) e1 _).setCell (p := ⟨z + 1, 4, none⟩) e1 _⟩

set_option maxRecDepth 100000 in
set_option maxHeartbeats 32000000 in
theorem ref09_NewC {ca ta : Option Addr} {cc tc : Nat} (c : Conf) (i : Nat) {w : World} (hk0 : kcheck c = 0) (hi : i < c.ts.length) (h : CfgAt w ca ta cc tc c) :
    Calls Tryd.prog 48 #[.agg #[.slice ca c.cl.length cc, .int .i64 c.page, .slice ta c.ts.length tc, .int .i64 c.wk, .int .i64 c.gr, .int .i64 c.gens], .int .i64 i] w (DocNewC ca cc c i w) := by
  obtain ⟨i0, hi0, hz0, hz1, hz2⟩ := info_parts info_int9
  obtain ⟨j0, hj0, hy0, hy1, hy2⟩ := info_parts info_slot
  have hx := (Ext.refl w).alloc (.cells #[.slice ca c.cl.length cc, .int .i64 c.page, .slice ta c.ts.length tc, .int .i64 c.wk, .int .i64 c.gr, .int .i64 c.gens] 25)
  obtain ⟨z, hz⟩ : ∃ z, w.heap.size = z := ⟨_, rfl⟩
  have BR : Hid (∀ i u, #[Value.slice none 0 0, .slice none 0 0, .slice none 0 0, .int .i64 0, .slice none 0 0][i]? = some u → ((w.alloc (.cells #[.slice ca c.cl.length cc, .int .i64 c.page, .slice ta c.ts.length tc, .int .i64 c.wk, .int .i64 c.gr, .int .i64 c.gens] 25)).alloc (.cells #[.slice none 0 0, .slice none 0 0, .slice none 0 0, .int .i64 0, .slice none 0 0] 30)).cell? ⟨z + 1, i, none⟩ = some u) := Lib.hid fun i u hu => by
    have := cell_newN (w.alloc (.cells #[.slice ca c.cl.length cc, .int .i64 c.page, .slice ta c.ts.length tc, .int .i64 c.wk, .int .i64 c.gr, .int .i64 c.gens] 25)) #[Value.slice none 0 0, .slice none 0 0, .slice none 0 0, .int .i64 0, .slice none 0 0] 30 i
    rw [hu] at this
    rw [show z + 1 = (w.alloc (.cells #[.slice ca c.cl.length cc, .int .i64 c.page, .slice ta c.ts.length tc, .int .i64 c.wk, .int .i64 c.gr, .int .i64 c.gens] 25)).heap.size by simp [hz]]
    exact this
  have FR : Hid (∀ i, ((w.alloc (.cells #[.slice ca c.cl.length cc, .int .i64 c.page, .slice ta c.ts.length tc, .int .i64 c.wk, .int .i64 c.gr, .int .i64 c.gens] 25)).alloc (.cells #[.slice none 0 0, .slice none 0 0, .slice none 0 0, .int .i64 0, .slice none 0 0] 30)).frozen? ⟨z + 1, i, none⟩ = false) := Lib.hid fun i => by
    rw [show z + 1 = (w.alloc (.cells #[.slice ca c.cl.length cc, .int .i64 c.page, .slice ta c.ts.length tc, .int .i64 c.wk, .int .i64 c.gr, .int .i64 c.gens] 25)).heap.size by simp [hz]]
    exact World.frozen?_alloc_at _ _ _ _ rfl
  have ho := kcheck_ok hk0
  have K0 := Lib.hid hk0
  have HO := Lib.hid ho
  have c8 := ho.cl.most
  have c1 := ho.cl.pos
  have R := Lib.hid (kregion_yes (there_mk (i := i) (j := 0) hk0 hi c1))
  obtain ⟨wo, hwo⟩ : ∃ p, wordsOf c i = p := ⟨_, rfl⟩
  rw [hwo] at R
  have HWO := Lib.hid hwo
  have H := Lib.hid h
  obtain ⟨cb, co, rfl, hc⟩ := h.cl.pos c1
  have HC := Lib.hid hc
  have h1 := (Ext.refl (w.alloc (.cells #[.slice (some ⟨cb, co, none⟩) c.cl.length cc, .int .i64 c.page, .slice ta c.ts.length tc, .int .i64 c.wk, .int .i64 c.gr, .int .i64 c.gens] 25))).alloc (.cells #[.slice none 0 0, .slice none 0 0, .slice none 0 0, .int .i64 0, .slice none 0 0] 30)
  clear h hk0 ho hwo hc
  go_enter Tryd.func48, Tryd.ntmps48
  go_wp2_with fail
  refine (ref06_Region c i wo 0 R.out (H.out.ext (hx.trans h1))).mono ?_
  rintro e w1 ⟨rfl, h2⟩
  have X1 := Lib.hid h2
  replace h1 := h1.trans h2
  clear h2
  obtain ⟨b0, b1, b2, b3, b4, b5⟩ := box6 h1
  rw [hz] at b0 b1 b2 b3 b4 b5
  have hlt1 : z < w1.heap.size := cell_lt b0
  go_wp2_with fail
  have PR0 : Hid (DocR ((w.alloc (.cells #[.slice (some ⟨cb, co, none⟩) c.cl.length cc, .int .i64 c.page, .slice ta c.ts.length tc, .int .i64 c.wk, .int .i64 c.gr, .int .i64 c.gens] 25)).alloc (.cells #[.slice none 0 0, .slice none 0 0, .slice none 0 0, .int .i64 0, .slice none 0 0] 30)) c i w1.heap.size 0 0 0 (some ⟨cb, co, none⟩) cc wo (.slice none 0 0) (.slice none 0 0) (.slice none 0 0) (w1.alloc (.cells #[.slice none 0 0, .slice none 0 0, .slice none 0 0, .int .i64 wo, .slice (some ⟨cb, co, none⟩) c.cl.length cc] 30))) :=
    Lib.hid (DocR.start (cell_newN _ _ _ 0) (cell_newN _ _ _ 1) (cell_newN _ _ _ 2) (cell_newN _ _ _ 3) (cell_newN _ _ _ 4) (fun o => World.frozen?_alloc_at _ _ _ _ rfl) X1.out.size (X1.out.alloc _))
  clear b0 b1 b2 b3 b4 b5 hlt1 h1
  generalize w1.heap.size = b at *
  go_loopw [9] (fun kv wr => ∃ (k n p : Nat) (lv fv mv : Value), k ≤ c.cl.length ∧ kv = .int .i64 k ∧ Hid ((n : Int) = sS c i k) ∧ Hid ((p : Int) = sG c i k) ∧ Hid (DocR ((w.alloc (.cells #[.slice (some ⟨cb, co, none⟩) c.cl.length cc, .int .i64 c.page, .slice ta c.ts.length tc, .int .i64 c.wk, .int .i64 c.gr, .int .i64 c.gens] 25)).alloc (.cells #[.slice none 0 0, .slice none 0 0, .slice none 0 0, .int .i64 0, .slice none 0 0] 30)) c i b n p p (some ⟨cb, co, none⟩) cc wo lv fv mv wr)) (fun kv _ => c.cl.length - (intOf kv).toNat)
  case atStart => exact ⟨0, 0, 0, _, _, _, Nat.zero_le _, rfl, rfl, rfl, PR0⟩
  case round =>
    clear PR0 X1
    obtain ⟨k, n, p, lv, fv, mv, hk, rfl, EN, EP, PR⟩ := hrel
    obtain ⟨b0, b1, b2, b3, b4, b5⟩ := box6 (((Ext.refl _).alloc _).trans PR.out.ext)
    rw [hz] at b0 b1 b2 b3 b4 b5
    by_cases hlt : k < c.cl.length
    · have KS := Lib.hid (kslots_yes (there_mk K0.out hi hlt))
      have bd := HO.out.bounds hi hlt
      have u1 := bd.c2; have u2 := bd.cpage; have u3 := bd.p64; have u4 := bd.c64; have u5 := bd.s1; have u6 := bd.s2048; have u7 := bd.pg1; have u8 := bd.pg2048; have u9 := bd.per1; have u10 := bd.per32
      have HPE := Lib.hid (show perOf c k = c.page / nth c.cl k from rfl)
      have SS := Lib.hid (show sS c i (k + 1) = sS c i k + slotsOf c i k from rfl)
      have SG := Lib.hid (show sG c i (k + 1) = sG c i k + pagesOf c i k from rfl)
      clear bd
      go_wp2_with fail
      clear b0 b1 b2 b3 b4 b5
      refine (ref06_Slots c i k _ 0 KS.out (H.out.ext (hx.trans (((Ext.refl _).alloc _).trans PR.out.ext)))).mono ?_
      rintro e w2 ⟨rfl, h2⟩
      have PR2 := Lib.hid (PR.out.go h2)
      clear h2 PR
      go_wp2_with fail
      go_loopw [10] (fun lfv wq => ∃ (d n2 p2 : Nat) (lf : Int) (lv fv mv : Value), (d : Int) ≤ pagesOf c i k ∧ lfv = .int .i64 lf ∧ Hid (lf = leftM (slotsOf c i k) (perOf c k) d) ∧ Hid ((n2 : Int) = sS c i k + slotsOf c i k - lf) ∧ Hid ((p2 : Int) = sG c i k + d) ∧ Hid (DocR ((w.alloc (.cells #[.slice (some ⟨cb, co, none⟩) c.cl.length cc, .int .i64 c.page, .slice ta c.ts.length tc, .int .i64 c.wk, .int .i64 c.gr, .int .i64 c.gens] 25)).alloc (.cells #[.slice none 0 0, .slice none 0 0, .slice none 0 0, .int .i64 0, .slice none 0 0] 30)) c i b n2 p2 p2 (some ⟨cb, co, none⟩) cc wo lv fv mv wq)) (fun lfv _ => (intOf lfv).toNat)
      case atStart => exact ⟨0, n, p, slotsOf c i k, lv, fv, mv, by omega, rfl, (leftM_zero (by omega)).symm, by have := EN.out; unfold Hid; omega, by have := EP.out; unfold Hid; omega, PR2⟩
      case round =>
        clear PR2
        obtain ⟨d, n2, p2, lf, lv, fv, mv, hd, rfl, EL, EN2, EP2, PR⟩ := hrel
        obtain ⟨b0, b1, b2, b3, b4, b5⟩ := box6 (((Ext.refl _).alloc _).trans PR.out.ext)
        rw [hz] at b0 b1 b2 b3 b4 b5
        by_cases hlf : 0 < lf
        · have hdl : (d : Int) * perOf c k < slotsOf c i k := by
            have := EL.out
            unfold leftM at this
            split at this
            · assumption
            · omega
          have hlf2 : lf = slotsOf c i k - d * perOf c k := by
            have := EL.out
            unfold leftM at this
            rw [if_pos hdl] at this
            exact this
          obtain ⟨M, PF⟩ := pageF HO.out hi hlt hdl
          have M1 := PF.pos; have M2 := PF.per; have M3 := PF.lef
          have PFH := Lib.hid PF
          have gl := HO.out.sG_le hi (Nat.le_refl _)
          have gm := sG_mono HO.out hi (a := k + 1) (b := c.cl.length) hlt (Nat.le_refl _)
          have p2b : p2 ≤ 16384 := by have := EP2.out; have := PF.dP; have := SG.out; omega
          have sl := HO.out.sS_le hi (Nat.le_refl _)
          have n2b : n2 + M ≤ 16384 := by
            have := sS_mono HO.out hi (a := k + 1) (b := c.cl.length) hlt (Nat.le_refl _)
            have := EN2.out; have := SS.out; omega
          have F1 : Hid (firsts c i (p2 + 1) = firsts c i p2 ++ [(n2 : Int)]) := Lib.hid (by
            rw [firsts_succ, PF.kp HO.out hi EP2.out, EP2.out, PF.first]
            have := EN2.out
            rw [show sS c i k + (d : Int) * perOf c k = n2 by omega])
          have F2 : Hid (manys c i (p2 + 1) = manys c i p2 ++ [(M : Int)]) := Lib.hid (by
            rw [manys_succ, PF.kp HO.out hi EP2.out, EP2.out, PF.many])
          have EN3 : Hid ((n2 : Int) = sS c i k + d * perOf c k) := Lib.hid (by have := EN2.out; omega)
          have NX : Hid (leftM (slotsOf c i k) (perOf c k) (d + 1) = lf - M) := Lib.hid (by rw [PF.next]; omega)
          have ONE : Hid ((M : Int) = perOf c k ∨ (M : Int) = lf) := Lib.hid (by have := PF.one; omega)
          have lfb : lf ≤ 2048 := by
            have h0 : 0 ≤ (d : Int) * perOf c k := Int.mul_nonneg (Int.natCast_nonneg _) (by omega)
            omega
          have ML : (M : Int) ≤ lf := by omega
          have HLF := Lib.hid hlf2
          have DP := Lib.hid PF.dP
          obtain ⟨fa, fcap, rfl⟩ := own_slice PR.out.of
          obtain ⟨la, lcap, rfl⟩ := own_slice PR.out.ol
          have q0 := PR.out.c0
          have q1 := PR.out.c1
          have bl : b < wr.heap.size := cell_lt q0
          clear PF hdl hlf2 gl gm sl EL EN2 M3
          go_wp2_with (at_builtin; refine wpList_append_lies _ rfl (.tmp 48) (.tmp 52) 22 rfl (b + 1) 3 i0 (.int .i64 0) 1 8 Tryd.underlying22 hi0 hz0 hz1 hz2 rfl (by decide) (.slice fa p2 fcap) p2 (ncs .i64 (firsts c i p2)) rfl (own_ext PR.out.of ((Ext.refl _).alloc _)) ⟨wr.heap.size, 0, none⟩ 1 1 [.int .i64 n2] rfl rfl (news1 _ _ _) (one1 rfl) (by decide) (by unfold maxLen; omega) (by omega) (by simp; omega) (wr.heap.size + 1) (by simp) ?_; intro gg cap w4 hown hgrow hat hlt4; obtain ⟨g0, g1, g2, g3, g4, gf, ge⟩ := PR.out.grown PR.out.of ((Ext.refl _).alloc _) hgrow; have gf1 := gf 1; have PR4 := Lib.hid (PR.out.pushF ((Ext.refl _).alloc _) hgrow (by rw [F1.out, ← ncs_snoc]; exact hown) (by rw [World.size_alloc]; exact own_at hat)); clear hown hgrow hat hlt4 gf)
          clear b0 b1 b2 b3 b4 b5 q0 q1 bl g0 g1 g2 g3 g4 gf1 ge PR
          go_loopw [10, 13, 14] (fun lfv mv' av wq => ∃ (m n3 : Nat) (at_ L : Int) (lv : Value), m ≤ M ∧ lfv = .int .i64 L ∧ Hid (L = lf - m) ∧ mv' = .int .i64 m ∧ av = .int .i64 at_ ∧ Hid (at_ = m * nth c.cl k) ∧ Hid (n3 = n2 + m) ∧ Hid (DocR ((w.alloc (.cells #[.slice (some ⟨cb, co, none⟩) c.cl.length cc, .int .i64 c.page, .slice ta c.ts.length tc, .int .i64 c.wk, .int .i64 c.gr, .int .i64 c.gens] 25)).alloc (.cells #[.slice none 0 0, .slice none 0 0, .slice none 0 0, .int .i64 0, .slice none 0 0] 30)) c i b n3 (p2 + 1) p2 (some ⟨cb, co, none⟩) cc wo lv (.slice (some ⟨gg, 0, none⟩) (p2 + 1) cap) mv wq)) (fun _ mv' _ _ => M - (intOf mv').toNat)
          case atStart => exact ⟨0, n2, 0, lf, _, Nat.zero_le _, rfl, by unfold Hid; simp, rfl, rfl, by unfold Hid; simp, rfl, PR4⟩
          case round =>
            clear PR4
            obtain ⟨m, n3, at_, L, lv, hm, rfl, ELF, rfl, rfl, EA, EN4, PR⟩ := hrel
            have L0 : 0 ≤ L ∧ L ≤ 2048 := by have := ELF.out; omega
            obtain ⟨L0, L1⟩ := L0
            obtain ⟨b0, b1, b2, b3, b4, b5⟩ := box6 (((Ext.refl _).alloc _).trans PR.out.ext)
            rw [hz] at b0 b1 b2 b3 b4 b5
            have zk := (hx.trans (((Ext.refl _).alloc _).trans PR.out.ext)).cell (HC.out k hlt)
            have at0 : 0 ≤ at_ ∧ at_ ≤ 2048 := by
              rw [EA.out]
              have := mul_bd (a := (m : Int)) (b := nth c.cl k) (A := 32) (B := 64) (by omega) (by omega) (by omega) u4
              omega
            have hk0 : (0 : Int) ≤ (k : Int) := Int.natCast_nonneg _
            have hk1 : (k : Int) < (c.cl.length : Int) := by omega
            obtain ⟨at0, at1⟩ := at0
            have ww : IntKind.i64.wrap (at_ + nth c.cl k) = at_ + nth c.cl k := IntWalk.i64_in _ (by omega)
            by_cases hmM : m < M
            · have L2 : 1 ≤ L := by have := ELF.out; omega
              have t1 : decide (0 < L) = true := by simp; omega
              have t2 : decide (at_ + nth c.cl k ≤ c.page) = true := by
                have := at_in (m := m) u1 HPE.out (by omega); rw [← EA.out] at this; simpa using this
              go_wp2_with fail
              refine wp_region_quiet_lit (by kernel_rfl) (by kernel_rfl) ?_
              repeat (any_goals (first | go_big_quiet_step (fail) | quiet_step (fail) | simp only [t1]))
              all_goals (refine wpQuiet_nil ?_; intro _ hw'; obtain ⟨nq, hw''⟩ := hw'; subst hw'')
              go_wp2_with fail
              have PR5 := Lib.hid (PR.out.go ((Ext.refl _).drewN nq))
              clear b0 b1 b2 b3 b4 b5 zk t1 t2 ww PR
              obtain ⟨b0, b1, b2, b3, b4, b5⟩ := box6 (((Ext.refl _).alloc _).trans PR5.out.ext)
              rw [hz] at b0 b1 b2 b3 b4 b5
              have zk := (hx.trans (((Ext.refl _).alloc _).trans PR5.out.ext)).cell (HC.out k hlt)
              generalize wr.drewN nq = w5 at *
              obtain ⟨la3, lcap3, rfl⟩ := own_slice PR5.out.ol
              have q0 := PR5.out.c0
              have bl : b < w5.heap.size := cell_lt q0
              have zl : z < w5.heap.size := cell_lt b0
              have cl : cb < w5.heap.size := cell_lt zk
              have zb : b ≠ z := by have := PR5.out.lo; simp at this; omega
              have cbb : b ≠ cb := by have := PR5.out.lo; have := HC.out k hlt; have := cell_lt this; simp at *; omega
              have n0 : ¬ b = w5.heap.size := by omega
              obtain ⟨PP, hPP⟩ : ∃ x, (p2 : Int) * c.page = x := ⟨_, rfl⟩
              have wb := mul_bd (a := (p2 : Int)) (b := c.page) (A := 16384) (B := 64) (by omega) (by omega) (by omega) u3
              rw [hPP] at wb
              obtain ⟨wb0, wb1⟩ := wb
              have k1 : IntKind.i64.wrap ((p2 : Int) * c.page) = PP := by rw [hPP]; exact IntWalk.i64_in _ (by omega)
              have k2 : IntKind.i64.wrap (PP + at_) = PP + at_ := IntWalk.i64_in _ (by omega)
              have SLC : Hid (slcs c i (n3 + 1) = slcs c i n3 ++ [.int .i64 k, .int .i64 (nth c.cl k), .int .i64 (PP + at_), .int .i64 p2]) := Lib.hid (by
                show slcs c i n3 ++ slc c i (n3 : Int) = _
                rw [PFH.out.slot HO.out hi hmM (n := n3) (by rw [EN4.out]; have := EN3.out; omega), ← EP2.out, hPP, EA.out])
              have n3b : n3 + 1 ≤ 16384 := by have := EN4.out; omega
              have NB1 := Lib.hid (show ∀ j u, [Value.int .i64 k, .int .i64 (nth c.cl k), .int .i64 (PP + at_), .int .i64 p2][j]? = some u → (w5.drew.alloc (.cells #[.int .i64 k, .int .i64 (nth c.cl k), .int .i64 (PP + at_), .int .i64 p2] 44)).cell? ((⟨w5.heap.size, 0, none⟩ : Addr).add j) = some u from fun j u hu => World.news_of_block (heap_alloc_new w5.drew _) j u hu)
              have NB2 := Lib.hid (show ∀ j u, [Value.int .i64 k, .int .i64 (nth c.cl k), .int .i64 (PP + at_), .int .i64 p2][j]? = some u → ((w5.alloc (.cells #[.int .i64 k, .int .i64 (nth c.cl k), .int .i64 (PP + at_), .int .i64 p2] 44)).drew).cell? ((⟨w5.heap.size, 0, none⟩ : Addr).add j) = some u from fun j u hu => (Ext.refl _).drew.cell (World.news_of_block (heap_alloc_new w5 _) j u hu))
              have one4 : ∀ u ∈ [Value.int .i64 k, .int .i64 (nth c.cl k), .int .i64 (PP + at_), .int .i64 p2], u.oneCell' = true := by
                intro u h
                simp only [List.mem_cons, List.not_mem_nil, or_false] at h
                rcases h with rfl | rfl | rfl | rfl <;> rfl
              have ONE4 := Lib.hid one4
              clear hPP one4
              refine wp_region_noPanic ?_
              refine wp_region_held_drew (S := (fun w' => w'.cell? ⟨z, 0, none⟩ = some (.slice (some ⟨cb, co, none⟩) c.cl.length cc) ∧ w'.cell? ⟨z, 1, none⟩ = some (.int .i64 c.page) ∧ w'.cell? ⟨cb, co + k, none⟩ = some (.int .i64 (nth c.cl k)))) (by kernel_rfl) ?_ (fun hHeld => ?_)
              focus ((try dsimp only); first | with_reducible exact ⟨e0, e1, ez⟩ | with_reducible exact ⟨(cell_far _ _ _ _ zb).trans e0, (cell_far _ _ _ _ zb).trans e1, (cell_far _ _ _ _ cbb).trans ez⟩ | go_keep)
              refine wpAnyH_take (i := 0) (v := ?_) rfl (by kernel_rfl) (by kernel_rfl) (by kernel_rfl) (fun _ _ _ h => h) (Or.inl ⟨by rfl, ?_⟩) (by assumption) ?_
              rotate_left
              focus (intro w hSw; (try dsimp only at hSw); go_simp; try with_reducible rfl)
              try simp only [Act.put, List.setIfInBounds_toArray, List.set_cons_zero, List.set_cons_succ]
              refine wpAnyH_take (i := 2) (v := ?_) rfl (by kernel_rfl) (by kernel_rfl) (by kernel_rfl) (fun _ _ _ h => h) (Or.inl ⟨by rfl, ?_⟩) (by assumption) ?_
              rotate_left
              focus (intro w hSw; (try dsimp only at hSw); go_simp; try with_reducible rfl)
              try simp only [Act.put, List.setIfInBounds_toArray, List.set_cons_zero, List.set_cons_succ]
              refine wpAnyH_take (i := 3) (v := ?_) rfl (by kernel_rfl) (by kernel_rfl) (by kernel_rfl) (fun _ _ _ h => h) (Or.inl ⟨by rfl, ?_⟩) (by assumption) ?_
              rotate_left
              focus (intro w hSw; (try dsimp only at hSw); go_simp; try with_reducible rfl)
              try simp only [Act.put, List.setIfInBounds_toArray, List.set_cons_zero, List.set_cons_succ]
              refine wpAnyH_take (i := 4) (v := ?_) rfl (by kernel_rfl) (by kernel_rfl) (by kernel_rfl) (fun _ _ _ h => h) (Or.inl ⟨by rfl, ?_⟩) (by assumption) ?_
              rotate_left
              focus (intro w hSw; (try dsimp only at hSw); go_simp; try with_reducible rfl)
              try simp only [Act.put, List.setIfInBounds_toArray, List.set_cons_zero, List.set_cons_succ]
              refine wpAnyH_take (i := 5) (v := ?_) rfl (by kernel_rfl) (by kernel_rfl) (by kernel_rfl) (fun _ _ _ h => h) (Or.inl ⟨by rfl, ?_⟩) (by assumption) ?_
              rotate_left
              focus (intro w hSw; (try dsimp only at hSw); go_simp; try with_reducible rfl)
              try simp only [Act.put, List.setIfInBounds_toArray, List.set_cons_zero, List.set_cons_succ]
              refine wpAnyH_take (i := 6) (v := ?_) rfl (by kernel_rfl) (by kernel_rfl) (by kernel_rfl) (fun _ _ _ h => h) (Or.inl ⟨by rfl, ?_⟩) (by assumption) ?_
              rotate_left
              focus (intro w hSw; (try dsimp only at hSw); go_simp; try with_reducible rfl)
              try simp only [Act.put, List.setIfInBounds_toArray, List.set_cons_zero, List.set_cons_succ]
              refine wpAnyH_take (i := 7) (v := ?_) rfl (by kernel_rfl) (by kernel_rfl) (by kernel_rfl) (fun _ _ _ h => h) (Or.inl ⟨by rfl, ?_⟩) (by assumption) ?_
              rotate_left
              focus (intro w hSw; (try dsimp only at hSw); go_simp; try with_reducible rfl)
              try simp only [Act.put, List.setIfInBounds_toArray, List.set_cons_zero, List.set_cons_succ]
              refine wpAnyH_take (i := 8) (v := ?_) rfl (by kernel_rfl) (by kernel_rfl) (by kernel_rfl) (fun _ _ _ h => h) (Or.inl ⟨by rfl, ?_⟩) (by assumption) ?_
              rotate_left
              focus (intro w hSw; (try dsimp only at hSw); go_simp; try with_reducible rfl)
              try simp only [Act.put, List.setIfInBounds_toArray, List.set_cons_zero, List.set_cons_succ]
              refine wpAnyH_take (i := 9) (v := ?_) rfl (by kernel_rfl) (by kernel_rfl) (by kernel_rfl) (fun _ _ _ h => h) (Or.inl ⟨by rfl, ?_⟩) (by assumption) ?_
              rotate_left
              focus (intro w hSw; (try dsimp only at hSw); go_simp; try with_reducible rfl)
              try simp only [Act.put, List.setIfInBounds_toArray, List.set_cons_zero, List.set_cons_succ]
              refine wpAnyH_take (i := 10) (v := ?_) rfl (by kernel_rfl) (by kernel_rfl) (by kernel_rfl) (fun _ _ _ h => h) (Or.inl ⟨by rfl, ?_⟩) (by assumption) ?_
              rotate_left
              focus (intro w hSw; (try dsimp only at hSw); go_simp; try with_reducible rfl)
              try simp only [Act.put, List.setIfInBounds_toArray, List.set_cons_zero, List.set_cons_succ]
              refine wpAnyH_take (i := 11) (v := ?_) rfl (by kernel_rfl) (by kernel_rfl) (by kernel_rfl) (fun _ _ _ h => h) (Or.inl ⟨by rfl, ?_⟩) (by assumption) ?_
              rotate_left
              focus (intro w hSw; (try dsimp only at hSw); go_simp; try with_reducible rfl)
              try simp only [Act.put, List.setIfInBounds_toArray, List.set_cons_zero, List.set_cons_succ]
              refine wpAnyH_take (i := 12) (v := ?_) rfl (by kernel_rfl) (by kernel_rfl) (by kernel_rfl) (fun _ _ _ h => h) (Or.inl ⟨by rfl, ?_⟩) (by assumption) ?_
              rotate_left
              focus (intro w hSw; (try dsimp only at hSw); go_simp; try with_reducible rfl)
              try simp only [Act.put, List.setIfInBounds_toArray, List.set_cons_zero, List.set_cons_succ]
              refine wpAnyH_take (i := 13) (v := ?_) rfl (by kernel_rfl) (by kernel_rfl) (by kernel_rfl) (fun _ _ _ h => h) (Or.inl ⟨by rfl, ?_⟩) (by assumption) ?_
              rotate_left
              focus (intro w hSw; (try dsimp only at hSw); go_simp; try with_reducible rfl)
              try simp only [Act.put, List.setIfInBounds_toArray, List.set_cons_zero, List.set_cons_succ]
              refine wpAnyH_take (i := 14) (v := ?_) rfl (by kernel_rfl) (by kernel_rfl) (by kernel_rfl) (fun _ _ _ h => h) (Or.inl ⟨by rfl, ?_⟩) (by assumption) ?_
              rotate_left
              focus (intro w hSw; (try dsimp only at hSw); go_simp; try with_reducible rfl)
              try simp only [Act.put, List.setIfInBounds_toArray, List.set_cons_zero, List.set_cons_succ]
              refine wpAnyH_take (i := 15) (v := ?_) rfl (by kernel_rfl) (by kernel_rfl) (by kernel_rfl) (fun _ _ _ h => h) (Or.inl ⟨by rfl, ?_⟩) (by assumption) ?_
              rotate_left
              focus (intro w hSw; (try dsimp only at hSw); go_simp; try with_reducible rfl)
              try simp only [Act.put, List.setIfInBounds_toArray, List.set_cons_zero, List.set_cons_succ]
              refine wpAnyH_ready (rs := [1, 16]) (by kernel_rfl) (by simp) ?_
              refine AllReadyH.cons (i := 1) rfl (fun K hK => ?_) (AllReadyH.cons (i := 16) rfl (fun K hK => ?_) AllReadyH.nil)
              go_simp
              refine hK.out _ _ ?_ (fun hHeld => ?_)
              focus ((try dsimp only); first | with_reducible exact ⟨e0, e1, ez⟩ | with_reducible exact ⟨(cell_far _ _ _ _ zb).trans e0, (cell_far _ _ _ _ zb).trans e1, (cell_far _ _ _ _ cbb).trans ez⟩ | go_keep)
              clear hK K
              try simp only [Act.put, List.setIfInBounds_toArray, List.set_cons_zero, List.set_cons_succ]
              refine wpAnyH_ready (rs := [16]) (by kernel_rfl) (by simp) ?_
              refine AllReadyH.cons (i := 16) rfl (fun K hK => ?_) AllReadyH.nil
              go_simp
              refine hK.out _ _ ?_ (fun hHeld => ?_)
              focus ((try dsimp only); first | with_reducible exact ⟨e0, e1, ez⟩ | with_reducible exact ⟨(cell_far _ _ _ _ zb).trans e0, (cell_far _ _ _ _ zb).trans e1, (cell_far _ _ _ _ cbb).trans ez⟩ | go_keep)
              clear hK K
              try simp only [Act.put, List.setIfInBounds_toArray, List.set_cons_zero, List.set_cons_succ]
              refine wpAnyH_ready (rs := [17]) (by kernel_rfl) (by simp) ?_
              refine AllReadyH.cons (i := 17) rfl (fun K hK => ?_) AllReadyH.nil
              (refine step_append_lies _ (by rfl) (.tmp 77) (.tmp 92) 28 (by rfl) (b + 1) 44 j0 (.agg #[.int .i64 0, .int .i64 0, .int .i64 0, .int .i64 0]) 4 32 Tryd.underlying28 hj0 hy0 hy1 hy2 rfl (by decide) (.slice la3 n3 lcap3) n3 (slcs c i n3) (by simp [Act.eval]) (own_ext PR5.out.ol (by repeat (first | with_reducible exact Ext.refl _ | with_reducible refine Ext.drew ?_ | with_reducible refine Ext.drewN ?_ _ | with_reducible refine Ext.alloc ?_ _))) ⟨w5.heap.size, 0, none⟩ 1 1 [.int .i64 k, .int .i64 (nth c.cl k), .int .i64 (PP + at_), .int .i64 p2] (by simp [Act.eval]) rfl (fun j u hu => by first | exact NB1.out j u hu | exact NB2.out j u hu | fail) ONE4.out (by decide) (by unfold maxLen; omega) (by omega) (by simp; omega) (w5.heap.size + 1) (by simp) ?_; intro g' cap' w6 hown hgrow hat hltg; obtain ⟨r0, r1, r2, r3, r4, rf, re⟩ := PR5.out.grown PR5.out.ol (by repeat (first | with_reducible exact Ext.refl _ | with_reducible refine Ext.drew ?_ | with_reducible refine Ext.drewN ?_ _ | with_reducible refine Ext.alloc ?_ _)) hgrow; have xx := ((Ext.refl _).alloc _).trans re; obtain ⟨e0, e1, _⟩ := box6 xx; rw [hz] at e0 e1; have ez := (hx.trans xx).cell (HC.out k hlt); have rf0 := rf 0; have PR6 := Lib.hid (PR5.out.pushL (by repeat (first | with_reducible exact Ext.refl _ | with_reducible refine Ext.drew ?_ | with_reducible refine Ext.drewN ?_ _ | with_reducible refine Ext.alloc ?_ _)) hgrow (by rw [SLC.out]; exact hown)))
              refine hK.out _ _ ?_ (fun hHeld => ?_)
              focus ((try dsimp only); first | with_reducible exact ⟨e0, e1, ez⟩ | with_reducible exact ⟨(cell_far _ _ _ _ zb).trans e0, (cell_far _ _ _ _ zb).trans e1, (cell_far _ _ _ _ cbb).trans ez⟩ | go_keep)
              clear hK K
              try simp only [Act.put, List.setIfInBounds_toArray, List.set_cons_zero, List.set_cons_succ]
              refine wpAnyH_take (i := 18) (v := ?_) rfl (by kernel_rfl) (by kernel_rfl) (by kernel_rfl) (fun _ _ _ h => h) (Or.inl ⟨by rfl, ?_⟩) (by assumption) ?_
              rotate_left
              focus (intro w hSw; (try dsimp only at hSw); go_simp; try with_reducible rfl)
              try simp only [Act.put, List.setIfInBounds_toArray, List.set_cons_zero, List.set_cons_succ]
              refine wpAnyH_ready (rs := [19]) (by kernel_rfl) (by simp) ?_
              refine AllReadyH.cons (i := 19) rfl (fun K hK => ?_) AllReadyH.nil
              go_simp
              refine hK.out _ _ ?_ (fun hHeld => ?_)
              focus ((try dsimp only); first | with_reducible exact ⟨e0, e1, ez⟩ | with_reducible exact ⟨(cell_far _ _ _ _ zb).trans e0, (cell_far _ _ _ _ zb).trans e1, (cell_far _ _ _ _ cbb).trans ez⟩ | go_keep)
              clear hK K
              try simp only [Act.put, List.setIfInBounds_toArray, List.set_cons_zero, List.set_cons_succ]
              refine wpAnyH_done (by kernel_rfl) ?_ _
              rotate_left
              go_simp
              refine hK.out _ _ ?_ (fun hHeld => ?_)
              focus ((try dsimp only); first | with_reducible exact ⟨e0, e1, ez⟩ | with_reducible exact ⟨(cell_far _ _ _ _ zb).trans e0, (cell_far _ _ _ _ zb).trans e1, (cell_far _ _ _ _ cbb).trans ez⟩ | go_keep)
              clear hK K
              try simp only [Act.put, List.setIfInBounds_toArray, List.set_cons_zero, List.set_cons_succ]
              refine wpAnyH_ready (rs := [1]) (by kernel_rfl) (by simp) ?_
              refine AllReadyH.cons (i := 1) rfl (fun K hK => ?_) AllReadyH.nil
              go_simp
              refine hK.out _ _ ?_ (fun hHeld => ?_)
              focus ((try dsimp only); first | with_reducible exact ⟨e0, e1, ez⟩ | with_reducible exact ⟨(cell_far _ _ _ _ zb).trans e0, (cell_far _ _ _ _ zb).trans e1, (cell_far _ _ _ _ cbb).trans ez⟩ | go_keep)
              clear hK K
              try simp only [Act.put, List.setIfInBounds_toArray, List.set_cons_zero, List.set_cons_succ]
              refine wpAnyH_ready (rs := [17]) (by kernel_rfl) (by simp) ?_
              refine AllReadyH.cons (i := 17) rfl (fun K hK => ?_) AllReadyH.nil
              (refine step_append_lies _ (by rfl) (.tmp 77) (.tmp 92) 28 (by rfl) (b + 1) 44 j0 (.agg #[.int .i64 0, .int .i64 0, .int .i64 0, .int .i64 0]) 4 32 Tryd.underlying28 hj0 hy0 hy1 hy2 rfl (by decide) (.slice la3 n3 lcap3) n3 (slcs c i n3) (by simp [Act.eval]) (own_ext PR5.out.ol (by repeat (first | with_reducible exact Ext.refl _ | with_reducible refine Ext.drew ?_ | with_reducible refine Ext.drewN ?_ _ | with_reducible refine Ext.alloc ?_ _))) ⟨w5.heap.size, 0, none⟩ 1 1 [.int .i64 k, .int .i64 (nth c.cl k), .int .i64 (PP + at_), .int .i64 p2] (by simp [Act.eval]) rfl (fun j u hu => by first | exact NB1.out j u hu | exact NB2.out j u hu | fail) ONE4.out (by decide) (by unfold maxLen; omega) (by omega) (by simp; omega) (w5.heap.size + 1) (by simp) ?_; intro g' cap' w6 hown hgrow hat hltg; obtain ⟨r0, r1, r2, r3, r4, rf, re⟩ := PR5.out.grown PR5.out.ol (by repeat (first | with_reducible exact Ext.refl _ | with_reducible refine Ext.drew ?_ | with_reducible refine Ext.drewN ?_ _ | with_reducible refine Ext.alloc ?_ _)) hgrow; have xx := ((Ext.refl _).alloc _).trans re; obtain ⟨e0, e1, _⟩ := box6 xx; rw [hz] at e0 e1; have ez := (hx.trans xx).cell (HC.out k hlt); have rf0 := rf 0; have PR6 := Lib.hid (PR5.out.pushL (by repeat (first | with_reducible exact Ext.refl _ | with_reducible refine Ext.drew ?_ | with_reducible refine Ext.drewN ?_ _ | with_reducible refine Ext.alloc ?_ _)) hgrow (by rw [SLC.out]; exact hown)))
              refine hK.out _ _ ?_ (fun hHeld => ?_)
              focus ((try dsimp only); first | with_reducible exact ⟨e0, e1, ez⟩ | with_reducible exact ⟨(cell_far _ _ _ _ zb).trans e0, (cell_far _ _ _ _ zb).trans e1, (cell_far _ _ _ _ cbb).trans ez⟩ | go_keep)
              clear hK K
              try simp only [Act.put, List.setIfInBounds_toArray, List.set_cons_zero, List.set_cons_succ]
              refine wpAnyH_take (i := 18) (v := ?_) rfl (by kernel_rfl) (by kernel_rfl) (by kernel_rfl) (fun _ _ _ h => h) (Or.inl ⟨by rfl, ?_⟩) (by assumption) ?_
              rotate_left
              focus (intro w hSw; (try dsimp only at hSw); go_simp; try with_reducible rfl)
              try simp only [Act.put, List.setIfInBounds_toArray, List.set_cons_zero, List.set_cons_succ]
              refine wpAnyH_ready (rs := [19]) (by kernel_rfl) (by simp) ?_
              refine AllReadyH.cons (i := 19) rfl (fun K hK => ?_) AllReadyH.nil
              go_simp
              refine hK.out _ _ ?_ (fun hHeld => ?_)
              focus ((try dsimp only); first | with_reducible exact ⟨e0, e1, ez⟩ | with_reducible exact ⟨(cell_far _ _ _ _ zb).trans e0, (cell_far _ _ _ _ zb).trans e1, (cell_far _ _ _ _ cbb).trans ez⟩ | go_keep)
              clear hK K
              try simp only [Act.put, List.setIfInBounds_toArray, List.set_cons_zero, List.set_cons_succ]
              refine wpAnyH_done (by kernel_rfl) ?_ _
              rotate_left
              all_goals (refine NoPanic.normal ?_)
              all_goals
                have f0 := (cell_far w6 ⟨b, 0, none⟩ ⟨z, 0, none⟩ (.slice (some ⟨g', 0, none⟩) (n3 + 1) cap') zb).trans e0
                have f1 := (cell_far w6 ⟨b, 0, none⟩ ⟨cb, co + k, none⟩ (.slice (some ⟨g', 0, none⟩) (n3 + 1) cap') cbb).trans ez
                go_wp2_with fail
                go_roundw
                case rel => exact ⟨m + 1, n3 + 1, _, _, _, by omega, rfl, by have := ELF.out; unfold Hid; omega, by go_num, rfl, by unfold Hid; rw [EA.out, Int.natCast_add, Int.add_mul]; simp, by have := EN4.out; unfold Hid; omega, PR6⟩
                case measure => simp [intOf]; omega
            · obtain rfl : m = M := by omega
              have q2 := PR.out.c2
              have bl5 : b < wr.heap.size := cell_lt q2
              by_cases hL : 0 < L
              · have hper : (m : Int) = perOf c k := by have h1 := ONE.out; have h2 := ELF.out; omega
                have t1 : decide (0 < L) = true := by simpa using hL
                have t2 : decide (at_ + nth c.cl k ≤ c.page) = false := by
                  have := at_out (m := m) u1 HPE.out hper; rw [← EA.out] at this; simpa using this
                clear hL hper
                go_wp2_with fail
                refine wp_region_quiet_lit (by kernel_rfl) (by kernel_rfl) ?_
                repeat (any_goals (first | go_big_quiet_step (fail) | quiet_step (fail) | simp only [t1]))
                all_goals (refine wpQuiet_nil ?_; intro _ hw'; obtain ⟨nq, hw''⟩ := hw'; subst hw'')
                clear b0 b1 b2 b3 b4 b5 zk ww
                go_wp2_with (at_builtin; refine wpList_append_lies _ rfl (.tmp 100) (.tmp 102) 22 rfl (b + 1) 3 i0 (.int .i64 0) 1 8 Tryd.underlying22 hi0 hz0 hz1 hz2 rfl (by decide) mv p2 (ncs .i64 (manys c i p2)) rfl (own_ext PR.out.om (by repeat (first | with_reducible exact Ext.refl _ | with_reducible refine Ext.drew ?_ | with_reducible refine Ext.drewN ?_ _ | with_reducible refine Ext.alloc ?_ _))) ⟨wr.heap.size, 0, none⟩ 1 1 [.int .i64 m] rfl rfl (newsb9 _ _ (by simp)) (one1 rfl) (by decide) (by unfold maxLen; omega) (by omega) (by simp; omega) (wr.heap.size + 1) (by simp) ?_; intro g7 cap7 w7 hown hgrow hat hlt7; obtain ⟨g0, g1, g2, g3, g4, gf, ge⟩ := PR.out.grown PR.out.om (by repeat (first | with_reducible exact Ext.refl _ | with_reducible refine Ext.drew ?_ | with_reducible refine Ext.drewN ?_ _ | with_reducible refine Ext.alloc ?_ _)) hgrow; have gf2 := gf 2; have PR7 := Lib.hid (PR.out.pushM (by repeat (first | with_reducible exact Ext.refl _ | with_reducible refine Ext.drew ?_ | with_reducible refine Ext.drewN ?_ _ | with_reducible refine Ext.alloc ?_ _)) hgrow (by rw [F2.out, ← ncs_snoc]; exact hown) (by rw [show ((wr.drewN nq).alloc (.cells #[.int .i64 m] 3)).heap.size = wr.heap.size + 1 by simp]; exact own_at hat)); clear hown hgrow hat hlt7 gf)
                go_roundw
                case rel => exact ⟨d + 1, n3, p2 + 1, L, lv, _, _, by have := DP.out; omega, rfl, by have h1 := NX.out; have h2 := ELF.out; unfold Hid; omega, by have h1 := EN4.out; have h2 := EN3.out; have h3 := ELF.out; have h4 := HLF.out; unfold Hid; omega, by have h1 := EP2.out; unfold Hid; omega, PR7⟩
                case measure => have h2 := ELF.out; simp [intOf]; omega
              · have t1 : decide (0 < L) = false := by simpa using hL
                clear hL
                go_wp2_with fail
                refine wp_region_quiet_lit (by kernel_rfl) (by kernel_rfl) ?_
                repeat (any_goals (first | go_big_quiet_step (fail) | quiet_step (fail) | simp only [t1]))
                all_goals (refine wpQuiet_nil ?_; intro _ hw'; obtain ⟨nq, hw''⟩ := hw'; subst hw'')
                clear b0 b1 b2 b3 b4 b5 zk ww
                go_wp2_with (at_builtin; refine wpList_append_lies _ rfl (.tmp 100) (.tmp 102) 22 rfl (b + 1) 3 i0 (.int .i64 0) 1 8 Tryd.underlying22 hi0 hz0 hz1 hz2 rfl (by decide) mv p2 (ncs .i64 (manys c i p2)) rfl (own_ext PR.out.om (by repeat (first | with_reducible exact Ext.refl _ | with_reducible refine Ext.drew ?_ | with_reducible refine Ext.drewN ?_ _ | with_reducible refine Ext.alloc ?_ _))) ⟨wr.heap.size, 0, none⟩ 1 1 [.int .i64 m] rfl rfl (newsb9 _ _ (by simp)) (one1 rfl) (by decide) (by unfold maxLen; omega) (by omega) (by simp; omega) (wr.heap.size + 1) (by simp) ?_; intro g7 cap7 w7 hown hgrow hat hlt7; obtain ⟨g0, g1, g2, g3, g4, gf, ge⟩ := PR.out.grown PR.out.om (by repeat (first | with_reducible exact Ext.refl _ | with_reducible refine Ext.drew ?_ | with_reducible refine Ext.drewN ?_ _ | with_reducible refine Ext.alloc ?_ _)) hgrow; have gf2 := gf 2; have PR7 := Lib.hid (PR.out.pushM (by repeat (first | with_reducible exact Ext.refl _ | with_reducible refine Ext.drew ?_ | with_reducible refine Ext.drewN ?_ _ | with_reducible refine Ext.alloc ?_ _)) hgrow (by rw [F2.out, ← ncs_snoc]; exact hown) (by rw [show ((wr.drewN nq).alloc (.cells #[.int .i64 m] 3)).heap.size = wr.heap.size + 1 by simp]; exact own_at hat)); clear hown hgrow hat hlt7 gf)
                go_roundw
                case rel => exact ⟨d + 1, n3, p2 + 1, L, lv, _, _, by have := DP.out; omega, rfl, by have h1 := NX.out; have h2 := ELF.out; unfold Hid; omega, by have h1 := EN4.out; have h2 := EN3.out; have h3 := ELF.out; have h4 := HLF.out; unfold Hid; omega, by have h1 := EP2.out; unfold Hid; omega, PR7⟩
                case measure => have h2 := ELF.out; simp [intOf]; omega
        · have hlf0 : lf = 0 := by
            have := EL.out
            unfold leftM at this
            split at this <;> omega
          have hend : (d : Int) = pagesOf c i k := pages_all HO.out hi hlt hd (by
            intro h
            have := EL.out
            unfold leftM at this
            rw [if_pos h] at this
            omega)
          have EN5 : Hid ((n2 : Int) = sS c i (k + 1)) := Lib.hid (by have h1 := EN2.out; have h2 := SS.out; omega)
          have EP5 : Hid ((p2 : Int) = sG c i (k + 1)) := Lib.hid (by have h1 := EP2.out; have h2 := SG.out; omega)
          clear hend EL EN2
          subst hlf0
          go_wp2_with fail
          go_roundw
          case rel => exact ⟨k + 1, n2, p2, lv, fv, mv, by omega, by go_num, EN5, EP5, PR⟩
          case measure => simp [intOf]; omega
    · obtain rfl : k = c.cl.length := by omega
      obtain rfl : n = nS c i := by have h1 := EN.out; have h2 := HO.out.nS_eq hi; omega
      obtain rfl : p = nG c i := by have h1 := EP.out; have h2 := HO.out.nG_eq hi; omega
      have xw := hx.trans (((Ext.refl _).alloc _).trans PR.out.ext)
      obtain ⟨lb, lc, fb, fc, mb, mc, rfl, rfl, rfl, hp, bl, bf, bm⟩ := PR.out.plan HO.out hi (H.out.cl.ext xw)
      have HPL := Lib.hid hp
      have q0 := PR.out.c0; have q1 := PR.out.c1; have q2 := PR.out.c2; have q3 := PR.out.c3; have q4 := PR.out.c4
      have r0 := PR.out.ext.cell (BR.out 0 _ rfl); have r1 := PR.out.ext.cell (BR.out 1 _ rfl); have r2 := PR.out.ext.cell (BR.out 2 _ rfl); have r3 := PR.out.ext.cell (BR.out 3 _ rfl); have r4 := PR.out.ext.cell (BR.out 4 _ rfl)
      have rf : ∀ o, wr.frozen? ⟨z + 1, o, none⟩ = false := fun o => by rw [PR.out.ext.frozen (p := ⟨z + 1, o, none⟩) (by simp [hz])]; exact FR.out o
      have f0 := rf 0; have f1 := rf 1; have f2 := rf 2; have f3 := rf 3; have f4 := rf 4
      have XW := Lib.hid xw
      clear hp xw rf
      go_wp2_with fail
      have s0 := set_same (w := wr) (u := .slice (some ⟨lb, 0, none⟩) (nS c i) lc) r0
      have s1 := set_same (w := (wr.setCell ⟨z + 1, 0, none⟩ (.slice (some ⟨lb, 0, none⟩) (nS c i) lc))) (u := .slice (some ⟨fb, 0, none⟩) (nG c i) fc) (set_oth (by decide) r1)
      have s2 := set_same (w := ((wr.setCell ⟨z + 1, 0, none⟩ (.slice (some ⟨lb, 0, none⟩) (nS c i) lc)).setCell ⟨z + 1, 1, none⟩ (.slice (some ⟨fb, 0, none⟩) (nG c i) fc))) (u := .slice (some ⟨mb, 0, none⟩) (nG c i) mc) (set_oth (by decide) (set_oth (by decide) r2))
      have s3 := set_same (w := (((wr.setCell ⟨z + 1, 0, none⟩ (.slice (some ⟨lb, 0, none⟩) (nS c i) lc)).setCell ⟨z + 1, 1, none⟩ (.slice (some ⟨fb, 0, none⟩) (nG c i) fc)).setCell ⟨z + 1, 2, none⟩ (.slice (some ⟨mb, 0, none⟩) (nG c i) mc))) (u := .int .i64 wo) (set_oth (by decide) (set_oth (by decide) (set_oth (by decide) r3)))
      have s4 := set_same (w := ((((wr.setCell ⟨z + 1, 0, none⟩ (.slice (some ⟨lb, 0, none⟩) (nS c i) lc)).setCell ⟨z + 1, 1, none⟩ (.slice (some ⟨fb, 0, none⟩) (nG c i) fc)).setCell ⟨z + 1, 2, none⟩ (.slice (some ⟨mb, 0, none⟩) (nG c i) mc)).setCell ⟨z + 1, 3, none⟩ (.int .i64 wo))) (u := .slice (some ⟨cb, co, none⟩) c.cl.length cc) (set_oth (by decide) (set_oth (by decide) (set_oth (by decide) (set_oth (by decide) r4))))
      have HWV := HWO.out
      refine bodyPost_ret (v := .tuple #[dpv lb lc fb fc mb mc (some ⟨cb, co, none⟩) cc c i, .int .i64 0]) (by simp [results, Tryd.results48, go_sem, s0, s1, s2, s3, s4, dpv, HWV]) rfl ⟨lb, lc, fb, fc, mb, mc, rfl, ?_, ?_⟩
      · have zl : z + 1 < b := by have := PR.out.lo; simp [hz] at this; omega
        have cl : cb < z := by have := cell_lt (HC.out 0 (by omega)); dsimp only at this; omega
        have nk : ∀ (b' o' : Nat), (some (⟨cb, co, none⟩ : Addr)) = some ⟨b', o', none⟩ → b' ≠ z + 1 := fun b' o' e => by cases e; omega
        have far := fun {W : World} {o : Nat} {u : Value} (h : DPlan W lb fb mb (some ⟨cb, co, none⟩) c i) => h.far (x := z + 1) (o := o) (u := u) (by omega) (by omega) (by omega) nk
        exact far (far (far (far (far HPL.out))))
      · have e1 : w.heap.size ≤ z + 1 := by omega
        exact ((((XW.out.setCell (p := ⟨z + 1, 0, none⟩) e1 _).setCell (p := ⟨z + 1, 1, none⟩) e1 _).setCell (p := ⟨z + 1, 2, none⟩) e1 _).setCell (p := ⟨z + 1, 3, none⟩) e1 _).setCell (p := ⟨z + 1, 4, none⟩) e1 _
theorem ref09_New {ca ta : Option Addr} {cc tc : Nat} (c : Conf) (i : Nat) {w : World} (hk0 : kcheck c = 0) (hi : i < c.ts.length) (h : CfgAt w ca ta cc tc c) :
    Calls Tryd.prog 48 #[.agg #[.slice ca c.cl.length cc, .int .i64 c.page, .slice ta c.ts.length tc, .int .i64 c.wk, .int .i64 c.gr, .int .i64 c.gens], .int .i64 i] w (DocNew c i w) :=
  (ref09_NewC c i hk0 hi h).mono (by rintro e w' ⟨lb, lc, fb, fc, mb, mc, h1, h2, h3⟩; exact ⟨lb, lc, fb, fc, mb, mc, ca, cc, h1, h2, h3⟩)

end Go.Proofs.YtlhajoamebfniaaDoor
