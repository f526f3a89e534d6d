/-
  Configurations in plain Lean: what conf.Check, Slots, Pages, Region, Base, Total and the document's answers compute. No program is named here.
-/
import Derived.Test.YteopbobhphghhaaClassP
namespace Go.Proofs.Yteopbobhphghhaa

structure Ten where
  q : Int
  tr : Int
  cp : Int
  sst : Int

structure Conf where
  cl : List Int
  page : Int
  ts : List Ten
  wk : Int
  gr : Int
  gens : Int

def ten0 : Ten := ⟨0, 0, 0, 0⟩
def tnth (ts : List Ten) (i : Nat) : Ten := ts.getD i ten0

theorem drop_tnth (ts : List Ten) (k : Nat) (h : k < ts.length) : ts.drop k = tnth ts k :: ts.drop (k + 1) := by
  rw [List.drop_eq_getElem_cons h]; simp [tnth, List.getD, h]

/-- conf.within: three by three. -/
def wthn : List Int → Bool
  | a :: b :: c :: r => if b < a ∨ c < b then false else wthn r
  | _ => true

theorem wthn_step (a b c : Int) (r : List Int) : wthn (a :: b :: c :: r) = if b < a ∨ c < b then false else wthn r := rfl
theorem wthn_short {l : List Int} (h : l.length < 3) : wthn l = true := by
  match l, h with
  | [], _ => rfl
  | [_], _ => rfl
  | [_, _], _ => rfl
  | _ :: _ :: _ :: _, h => simp at h; omega

/-- The sum of f 0 .. f (n - 1). -/
def sumTo (f : Nat → Int) : Nat → Int
  | 0 => 0
  | n + 1 => sumTo f n + f n

theorem sumTo_bound (f : Nat → Int) (B : Int) (n : Nat) (h : ∀ i, i < n → 0 ≤ f i ∧ f i ≤ B) : 0 ≤ sumTo f n ∧ sumTo f n ≤ n * B := by
  induction n with
  | zero => simp [sumTo]
  | succ n ih =>
    have h1 := ih fun i hi => h i (by omega)
    have h2 := h n (by omega)
    have h3 : ((n + 1 : Nat) : Int) * B = n * B + B := by rw [Int.natCast_add, Int.add_mul]; simp
    unfold sumTo
    omega
theorem sumTo_congr {f g : Nat → Int} (n : Nat) (h : ∀ i, i < n → f i = g i) : sumTo f n = sumTo g n := by
  induction n with
  | zero => rfl
  | succ n ih => unfold sumTo; rw [ih fun i hi => h i (by omega), h n (by omega)]
theorem sumTo_le {f g : Nat → Int} (n : Nat) (h : ∀ i, i < n → f i ≤ g i) : sumTo f n ≤ sumTo g n := by
  induction n with
  | zero => exact Int.le_refl _
  | succ n ih => unfold sumTo; have := ih fun i hi => h i (by omega); have := h n (by omega); omega

def great (c : Conf) : Int := nth c.cl (c.cl.length - 1)

def headOk (c : Conf) : Prop :=
  great c ≤ c.page ∧ c.page ≤ 64 ∧ 1 ≤ c.ts.length ∧ c.ts.length ≤ 8 ∧ 0 ≤ c.wk ∧ c.wk ≤ 8 ∧ 1 ≤ c.gr ∧ c.gr ≤ 64 ∧ 1 ≤ c.gens ∧ c.gens ≤ 2147483648
instance (c : Conf) : Decidable (headOk c) := by unfold headOk; infer_instance

def tenOk (g : Int) (t : Ten) : Prop := g ≤ t.q ∧ t.q ≤ 4096 ∧ 1 ≤ t.tr ∧ t.tr ≤ 1048576 ∧ 1 ≤ t.cp ∧ t.cp ≤ 1024 ∧ 0 ≤ t.sst ∧ t.sst ≤ 1024
instance (g : Int) (t : Ten) : Decidable (tenOk g t) := by unfold tenOk; infer_instance

def tenCheck (g : Int) : List Ten → Int
  | [] => 0
  | t :: r => if tenOk g t then tenCheck g r else 2

/-- conf.Check -/
def kcheck (c : Conf) : Int := if ccheck c.cl ≠ 0 then 2 else if headOk c then tenCheck (great c) c.ts else 2

structure KOk (c : Conf) : Prop where
  cl : COk c.cl
  head : headOk c
  ten : ∀ i, i < c.ts.length → tenOk (great c) (tnth c.ts i)

theorem tenCheck_01 (g : Int) (ts : List Ten) : tenCheck g ts = 0 ∨ tenCheck g ts = 2 := by
  induction ts with
  | nil => exact .inl rfl
  | cons t r ih => unfold tenCheck; split; exact ih; exact .inr rfl
theorem kcheck_01 (c : Conf) : kcheck c = 0 ∨ kcheck c = 2 := by
  unfold kcheck; split; exact .inr rfl; split; exact tenCheck_01 _ _; exact .inr rfl
theorem tenCheck_iff (g : Int) (ts : List Ten) : tenCheck g ts = 0 ↔ ∀ i, i < ts.length → tenOk g (tnth ts i) := by
  induction ts with
  | nil => exact ⟨fun _ i h => absurd h (Nat.not_lt_zero _), fun _ => rfl⟩
  | cons t r ih =>
    unfold tenCheck
    by_cases ht : tenOk g t
    · rw [if_pos ht, ih]
      constructor
      · intro h i hi
        cases i with
        | zero => exact ht
        | succ i => exact h i (by simpa using hi)
      · intro h i hi; exact h (i + 1) (by simpa using hi)
    · rw [if_neg ht]
      exact ⟨(fun h => by cases h), fun h => absurd (h 0 (by simp)) ht⟩
theorem kcheck_iff (c : Conf) : kcheck c = 0 ↔ KOk c := by
  unfold kcheck
  by_cases h0 : ccheck c.cl = 0
  · rw [if_neg (by omega)]
    by_cases h1 : headOk c
    · rw [if_pos h1, tenCheck_iff]
      exact ⟨fun h => ⟨ccheck_ok h0, h1, h⟩, fun h => h.ten⟩
    · rw [if_neg h1]
      exact ⟨(fun h => by cases h), fun h => absurd h.head h1⟩
  · rw [if_pos h0]
    exact ⟨(fun h => by cases h), fun h => absurd (ccheck_mk h.cl) h0⟩
theorem kcheck_ok {c : Conf} (h : kcheck c = 0) : KOk c := (kcheck_iff c).1 h

/-! ### What is told of a tenant and a class -/
def slotsOf (c : Conf) (t k : Nat) : Int := (tnth c.ts t).q / nth c.cl k
def perOf (c : Conf) (k : Nat) : Int := c.page / nth c.cl k
def pagesOf (c : Conf) (t k : Nat) : Int := (slotsOf c t k + perOf c k - 1) / perOf c k
def wordsOf (c : Conf) (t : Nat) : Int := sumTo (fun i => pagesOf c t i * c.page) c.cl.length
def baseOf (c : Conf) (t : Nat) : Int := sumTo (wordsOf c) t

def there (c : Conf) (t k : Int) : Prop := kcheck c = 0 ∧ 0 ≤ t ∧ t ≤ c.ts.length - 1 ∧ 0 ≤ k ∧ k ≤ c.cl.length - 1
instance (c : Conf) (t k : Int) : Decidable (there c t k) := by unfold there; infer_instance

def kslots (c : Conf) (t k : Int) : Int × Int := if there c t k then (slotsOf c t.toNat k.toNat, 0) else (0, 2)
def kpages (c : Conf) (t k : Int) : Int × Int := if there c t k then (pagesOf c t.toNat k.toNat, 0) else (0, 2)
def kregion (c : Conf) (t : Int) : Int × Int := if there c t 0 then (wordsOf c t.toNat, 0) else (0, 2)
def kbase (c : Conf) (t : Int) : Int × Int := if there c t 0 then (baseOf c t.toNat, 0) else (0, 2)
def ktotal (c : Conf) : Int × Int := if kcheck c = 0 then (baseOf c c.ts.length, 0) else (0, 2)

/-- The bounds on one tenant's one class. -/
structure Bounds (c : Conf) (t k : Nat) : Prop where
  c2 : 2 ≤ nth c.cl k
  c64 : nth c.cl k ≤ 64
  cpage : nth c.cl k ≤ c.page
  p64 : c.page ≤ 64
  cq : nth c.cl k ≤ (tnth c.ts t).q
  q4096 : (tnth c.ts t).q ≤ 4096
  per1 : 1 ≤ perOf c k
  per32 : perOf c k ≤ 32
  s1 : 1 ≤ slotsOf c t k
  s2048 : slotsOf c t k ≤ 2048
  pg1 : 1 ≤ pagesOf c t k
  pg2048 : pagesOf c t k ≤ 2048

theorem KOk.bounds {c : Conf} (h : KOk c) {t k : Nat} (ht : t < c.ts.length) (hk : k < c.cl.length) : Bounds c t k := by
  have a := h.cl.least k hk
  have b := h.cl.top k hk
  have g : nth c.cl k ≤ great c := by
    unfold great
    rcases Nat.lt_or_ge k (c.cl.length - 1) with c1 | c1
    · have := h.cl.inc k _ c1 (by omega); omega
    · have : k = c.cl.length - 1 := by omega
      rw [← this]; omega
  obtain ⟨g1, g2, _⟩ := h.head
  obtain ⟨q1, q2, _⟩ := h.ten t ht
  have per1 : 1 ≤ perOf c k := by
    unfold perOf; rw [Int.le_ediv_iff_mul_le (by omega)]; omega
  have per32 : perOf c k ≤ 32 := by
    unfold perOf
    have : c.page / nth c.cl k < 33 := by rw [Int.ediv_lt_iff_lt_mul (by omega)]; omega
    omega
  have s1 : 1 ≤ slotsOf c t k := by
    unfold slotsOf; rw [Int.le_ediv_iff_mul_le (by omega)]; omega
  have s2 : slotsOf c t k ≤ 2048 := by
    unfold slotsOf
    have : (tnth c.ts t).q / nth c.cl k < 2049 := by rw [Int.ediv_lt_iff_lt_mul (by omega)]; omega
    omega
  have pg1 : 1 ≤ pagesOf c t k := by
    unfold pagesOf; rw [Int.le_ediv_iff_mul_le (by omega)]; omega
  have pg2 : pagesOf c t k ≤ 2048 := by
    unfold pagesOf
    have : (slotsOf c t k + perOf c k - 1) / perOf c k < 2049 := by
      rw [Int.ediv_lt_iff_lt_mul (by omega)]
      have : 2048 * 1 ≤ 2048 * perOf c k := Int.mul_le_mul_of_nonneg_left per1 (by omega)
      omega
    omega
  exact ⟨a, b, by omega, g2, by omega, q2, per1, per32, s1, s2, pg1, pg2⟩

theorem KOk.page_bound {c : Conf} (h : KOk c) {t k : Nat} (ht : t < c.ts.length) (hk : k < c.cl.length) : 0 ≤ pagesOf c t k * c.page ∧ pagesOf c t k * c.page ≤ 131072 := by
  have b := h.bounds ht hk
  have b1 := b.pg1; have b2 := b.pg2048; have b3 := b.c2; have b4 := b.cpage; have b5 := b.p64
  constructor
  · exact Int.mul_nonneg (by omega) (by omega)
  · have := Int.mul_le_mul_of_nonneg_right (c := c.page) b2 (by omega)
    omega

theorem KOk.words_bound {c : Conf} (h : KOk c) {t : Nat} (ht : t < c.ts.length) : 0 ≤ wordsOf c t ∧ wordsOf c t ≤ 1048576 := by
  have := sumTo_bound (fun i => pagesOf c t i * c.page) 131072 c.cl.length (fun i hi => h.page_bound ht hi)
  have := h.cl.most
  unfold wordsOf
  omega
theorem KOk.base_bound {c : Conf} (h : KOk c) {t : Nat} (ht : t ≤ c.ts.length) : 0 ≤ baseOf c t ∧ baseOf c t ≤ 8388608 := by
  have := sumTo_bound (wordsOf c) 1048576 t (fun i hi => h.words_bound (by omega))
  obtain ⟨_, _, _, h8, _⟩ := h.head
  unfold baseOf
  omega

theorem there_nat {c : Conf} {t k : Int} (h : there c t k) : ∃ (i j : Nat), t = i ∧ k = j ∧ i < c.ts.length ∧ j < c.cl.length ∧ KOk c := by
  obtain ⟨h0, h1, h2, h3, h4⟩ := h
  exact ⟨t.toNat, k.toNat, by omega, by omega, by omega, by omega, kcheck_ok h0⟩
theorem there_mk {c : Conf} {i j : Nat} (h : kcheck c = 0) (hi : i < c.ts.length) (hj : j < c.cl.length) : there c i j := ⟨h, by omega, by omega, by omega, by omega⟩

theorem kslots_yes {c : Conf} {i j : Nat} (h : there c i j) : kslots c i j = (slotsOf c i j, 0) := by unfold kslots; rw [if_pos h]; rfl
theorem kpages_yes {c : Conf} {i j : Nat} (h : there c i j) : kpages c i j = (pagesOf c i j, 0) := by unfold kpages; rw [if_pos h]; rfl
theorem kregion_yes {c : Conf} {i : Nat} (h : there c i 0) : kregion c i = (wordsOf c i, 0) := by unfold kregion; rw [if_pos h]; rfl
theorem kbase_yes {c : Conf} {i : Nat} (h : there c i 0) : kbase c i = (baseOf c i, 0) := by unfold kbase; rw [if_pos h]; rfl
theorem kslots_no {c : Conf} {t k : Int} (h : ¬ there c t k) : kslots c t k = (0, 2) := by unfold kslots; rw [if_neg h]
theorem kpages_no {c : Conf} {t k : Int} (h : ¬ there c t k) : kpages c t k = (0, 2) := by unfold kpages; rw [if_neg h]
theorem kregion_no {c : Conf} {t : Int} (h : ¬ there c t 0) : kregion c t = (0, 2) := by unfold kregion; rw [if_neg h]
theorem kbase_no {c : Conf} {t : Int} (h : ¬ there c t 0) : kbase c t = (0, 2) := by unfold kbase; rw [if_neg h]

end Go.Proofs.Yteopbobhphghhaa
