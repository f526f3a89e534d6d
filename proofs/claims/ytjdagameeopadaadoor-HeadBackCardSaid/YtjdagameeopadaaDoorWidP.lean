/-
  Plain Lean on rows of widths: what field.Get, Set, Pack and Unpack compute, and what of it leads where. No program is named here.
-/
import Derived.Test.YtjdagameeopadaaDoorFieldP
namespace Go.Proofs.YtjdagameeopadaaDoor

def mayB (f m : Int) : Bool := decide (0 ≤ f ∧ 1 ≤ m ∧ m ≤ 64 ∧ f ≤ 64 - m)
def fgetI (w f m : Int) : Int := (fget w.toNat f.toNat m.toNat : Nat)
def fsetI (w f m v : Int) : Int := (fset w.toNat f.toNat m.toNat v.toNat : Nat)
def fitsB (v m : Int) : Bool := decide (v.toNat < 2 ^ m.toNat)
def gget (w f m : Int) : Int × Int := if mayB f m = true then (fgetI w f m, 0) else (0, 2)
def gset (w f m v : Int) : Int × Int := if mayB f m = true then (if fitsB v m = true then (fsetI w f m v, 0) else (0, 4)) else (0, 2)

theorem mayB_iff {f m : Int} : mayB f m = true ↔ (0 ≤ f ∧ 1 ≤ m ∧ m ≤ 64 ∧ f ≤ 64 - m) := by unfold mayB; simp
theorem mayB_no {f m : Int} : mayB f m = false ↔ ¬ (0 ≤ f ∧ 1 ≤ m ∧ m ≤ 64 ∧ f ≤ 64 - m) := by unfold mayB; simp
theorem mayB_nat {f m : Int} (h : mayB f m = true) : ∃ a b : Nat, f = a ∧ m = b ∧ 1 ≤ b ∧ b ≤ 64 ∧ a + b ≤ 64 := by
  rw [mayB_iff] at h
  exact ⟨f.toNat, m.toNat, by omega, by omega, by omega, by omega, by omega⟩

theorem lt64 {w : Int} (h0 : 0 ≤ w) (h : w < 18446744073709551616) : w.toNat < 2 ^ 64 := by
  have : (2 : Nat) ^ 64 = 18446744073709551616 := by decide
  omega
theorem of64 {n : Nat} (h : n < 2 ^ 64) : (0 : Int) ≤ n ∧ (n : Int) < 18446744073709551616 := by
  have : (2 : Nat) ^ 64 = 18446744073709551616 := by decide
  omega

theorem fgetI_64 {w f m : Int} (h : mayB f m = true) : 0 ≤ fgetI w f m ∧ fgetI w f m < 18446744073709551616 := by
  rw [mayB_iff] at h
  exact of64 (fget_64 (by omega))
theorem gget_64 {w f m p q : Int} (h : gget w f m = (p, q)) : 0 ≤ p ∧ p < 18446744073709551616 := by
  unfold gget at h
  split at h
  · rename_i hm; cases h; exact fgetI_64 hm
  · cases h; exact ⟨by decide, by decide⟩
theorem fsetI_64 {w f m v : Int} (h0 : 0 ≤ w) (h1 : w < 18446744073709551616) (h : mayB f m = true) (hv : fitsB v m = true) : 0 ≤ fsetI w f m v ∧ fsetI w f m v < 18446744073709551616 := by
  rw [mayB_iff] at h
  unfold fitsB at hv
  exact of64 (fset_64 (lt64 h0 h1) (by simpa using hv) (by omega))
theorem gset_64 {w f m v p q : Int} (h0 : 0 ≤ w) (h1 : w < 18446744073709551616) (h : gset w f m v = (p, q)) : 0 ≤ p ∧ p < 18446744073709551616 := by
  unfold gset at h
  split at h
  · rename_i hm
    split at h
    · rename_i hf; cases h; exact fsetI_64 h0 h1 hm hf
    · cases h; exact ⟨by decide, by decide⟩
  · cases h; exact ⟨by decide, by decide⟩
theorem gget_err {w f m p q : Int} (h : gget w f m = (p, q)) : q = 0 ∨ q = 2 := by
  unfold gget at h; split at h <;> cases h <;> simp
theorem gset_err {w f m v p q : Int} (h : gset w f m v = (p, q)) : q = 0 ∨ q = 2 ∨ q = 4 := by
  unfold gset at h; split at h
  · split at h <;> cases h <;> simp
  · cases h; simp
theorem gget_ok {w f m p : Int} (h : gget w f m = (p, 0)) : mayB f m = true ∧ p = fgetI w f m := by
  unfold gget at h; split at h
  · cases h; exact ⟨‹_›, rfl⟩
  · cases h
theorem gset_ok {w f m v p : Int} (h : gset w f m v = (p, 0)) : mayB f m = true ∧ fitsB v m = true ∧ p = fsetI w f m v := by
  unfold gset at h; split at h
  · split at h
    · cases h; exact ⟨‹_›, ‹_›, rfl⟩
    · cases h
  · cases h
theorem gset_bad {w f m v p q : Int} (h : gset w f m v = (p, q)) (hq : q ≠ 0) : p = 0 := by
  unfold gset at h; split at h
  · split at h
    · cases h; exact absurd rfl hq
    · cases h; rfl
  · cases h; rfl

/-! ### Rows of widths -/
def fr (xs : List Int) : Nat → Int
  | 0 => 0
  | i + 1 => fr xs i + nth xs i
def wokB (xs : List Int) : Bool := decide (0 < xs.length ∧ ∀ i, i < xs.length → mayB (fr xs i) (nth xs i) = true)

structure Wok (xs : List Int) : Prop where
  pos : 0 < xs.length
  may : ∀ i, i < xs.length → mayB (fr xs i) (nth xs i) = true
theorem wokB_iff {xs : List Int} : wokB xs = true ↔ Wok xs := by
  unfold wokB
  simp only [decide_eq_true_eq]
  exact ⟨fun h => ⟨h.1, h.2⟩, fun h => ⟨h.pos, h.may⟩⟩
theorem Wok.fr0 {xs : List Int} (h : Wok xs) : ∀ i, i ≤ xs.length → 0 ≤ fr xs i ∧ fr xs i ≤ 64
  | 0, _ => ⟨Int.le_refl _, by unfold fr; decide⟩
  | i + 1, hi => by
    have := mayB_iff.1 (h.may i (by omega))
    unfold fr; omega
theorem Wok.at {xs : List Int} (h : Wok xs) (i : Nat) (hi : i < xs.length) : ∃ a b : Nat, fr xs i = a ∧ nth xs i = b ∧ 1 ≤ b ∧ a + b ≤ 64 ∧ fr xs (i + 1) = ((a + b : Nat) : Int) := by
  obtain ⟨a, b, h1, h2, h3, _, h5⟩ := mayB_nat (h.may i hi)
  exact ⟨a, b, h1, h2, h3, h5, by show fr xs i + nth xs i = _; rw [h1, h2]; omega⟩
theorem Wok.mono {xs : List Int} (h : Wok xs) (i : Nat) : ∀ k, i ≤ k → k ≤ xs.length → fr xs i ≤ fr xs k
  | 0, h1, _ => by obtain rfl : i = 0 := by omega
                   exact Int.le_refl _
  | k + 1, h1, h2 => by
    rcases Nat.lt_or_ge i (k + 1) with c | c
    · have := h.mono i k (by omega) (by omega)
      obtain ⟨a, b, e1, e2, e3, e4, e5⟩ := h.at k (by omega)
      omega
    · obtain rfl : i = k + 1 := by omega
      exact Int.le_refl _
/-- Each width takes at least one bit, so there are 64 widths at most. -/
theorem Wok.many {xs : List Int} (h : Wok xs) : ∀ k, k ≤ xs.length → (k : Int) ≤ fr xs k
  | 0, _ => by unfold fr; decide
  | k + 1, hk => by
    have := h.many k (by omega)
    obtain ⟨a, b, e1, e2, e3, e4, e5⟩ := h.at k (by omega)
    omega
theorem Wok.le64 {xs : List Int} (h : Wok xs) : xs.length ≤ 64 := by
  have := h.many xs.length (Nat.le_refl _); have := h.fr0 xs.length (Nat.le_refl _); omega

theorem first_bad (p : Nat → Bool) : ∀ n, (∀ i, i < n → p i = true) ∨ ∃ k, k < n ∧ (∀ i, i < k → p i = true) ∧ p k = false
  | 0 => .inl fun i hi => absurd hi (Nat.not_lt_zero _)
  | n + 1 => by
    rcases first_bad p n with h | ⟨k, hk, h1, h2⟩
    · cases hp : p n
      · exact .inr ⟨n, by omega, h, hp⟩
      · refine .inl fun i hi => ?_
        rcases Nat.lt_or_ge i n with c | c
        · exact h i c
        · obtain rfl : i = n := by omega
          exact hp
    · exact .inr ⟨k, by omega, h1, h2⟩

/-- What field.all answers. -/
def allR (xs : List Int) : Int × Int := if wokB xs = true then (fr xs xs.length, 0) else (0, 2)

def pk (xs vs : List Int) : Nat → Nat
  | 0 => 0
  | i + 1 => pk xs vs i + 2 ^ (fr xs i).toNat * (nth vs i).toNat

theorem pk_lt {xs vs : List Int} (h : Wok xs) : ∀ k, k ≤ xs.length → (∀ i, i < k → fitsB (nth vs i) (nth xs i) = true) → pk xs vs k < 2 ^ (fr xs k).toNat
  | 0, _, _ => by show 0 < _; exact Nat.two_pow_pos _
  | k + 1, hk, hv => by
    have ih := pk_lt h k (by omega) fun i hi => hv i (by omega)
    have hf := hv k (by omega)
    obtain ⟨a, b, e1, e2, e3, e4, e5⟩ := h.at k (by omega)
    unfold fitsB at hf
    rw [e2] at hf
    rw [e1] at ih
    simp at hf ih
    have : (nth vs k).toNat + 1 ≤ 2 ^ b := hf
    have h2 := Nat.mul_le_mul_left (2 ^ a) this
    rw [← Nat.pow_add, Nat.mul_add, Nat.mul_one] at h2
    unfold pk
    rw [e5, e1]
    simp only [Int.toNat_natCast]
    omega
theorem pk_64 {xs vs : List Int} (h : Wok xs) (k : Nat) (hk : k ≤ xs.length) (hv : ∀ i, i < k → fitsB (nth vs i) (nth xs i) = true) : pk xs vs k < 2 ^ 64 :=
  Nat.lt_of_lt_of_le (pk_lt h k hk hv) (Nat.pow_le_pow_right (by decide) (by have := h.fr0 k hk; omega))
theorem pk_fset {xs vs : List Int} (h : Wok xs) (k : Nat) (hk : k < xs.length) (hv : ∀ i, i < k → fitsB (nth vs i) (nth xs i) = true) :
    fset (pk xs vs k) (fr xs k).toNat (nth xs k).toNat (nth vs k).toNat = pk xs vs (k + 1) := fset_top (pk_lt h k (by omega) hv)
theorem pk_step {xs vs : List Int} (h : Wok xs) (k : Nat) (hk : k < xs.length) (hv : ∀ i, i < k → fitsB (nth vs i) (nth xs i) = true) :
    fsetI (pk xs vs k : Nat) (fr xs k) (nth xs k) (nth vs k) = (pk xs vs (k + 1) : Nat) := by
  unfold fsetI
  rw [Int.toNat_natCast, pk_fset h k hk hv]
theorem gset_pk {xs vs : List Int} (h : Wok xs) (k : Nat) (hk : k < xs.length) (hv : ∀ i, i ≤ k → fitsB (nth vs i) (nth xs i) = true) :
    gset (pk xs vs k : Nat) (fr xs k) (nth xs k) (nth vs k) = (((pk xs vs (k + 1) : Nat) : Int), 0) := by
  unfold gset
  rw [if_pos (h.may k hk), if_pos (hv k (Nat.le_refl _)), pk_step h k hk fun i hi => hv i (by omega)]
theorem gset_pk_no {xs vs : List Int} (h : Wok xs) (k : Nat) (hk : k < xs.length) (hv : fitsB (nth vs k) (nth xs k) = false) (w : Int) :
    gset w (fr xs k) (nth xs k) (nth vs k) = (0, 4) := by
  unfold gset
  rw [if_pos (h.may k hk), if_neg (by rw [hv]; decide)]
theorem gget_at {xs : List Int} (h : Wok xs) (k : Nat) (hk : k < xs.length) (w : Int) : gget w (fr xs k) (nth xs k) = (fgetI w (fr xs k) (nth xs k), 0) := by
  unfold gget
  rw [if_pos (h.may k hk)]

def allFits (xs vs : List Int) : Bool := decide (∀ i, i < xs.length → fitsB (nth vs i) (nth xs i) = true)
def packR (xs vs : List Int) : Int × Int := if wokB xs = true ∧ vs.length = xs.length then (if allFits xs vs = true then (((pk xs vs xs.length : Nat) : Int), 0) else (0, 4)) else (0, 2)
def unp (xs : List Int) (w : Int) (k : Nat) : List Int := (List.range k).map fun i => fgetI w (fr xs i) (nth xs i)
def unpackR (xs : List Int) (w : Int) : List Int × Int := if wokB xs = true then (if fitsB w (fr xs xs.length) = true then (unp xs w xs.length, 0) else ([], 5)) else ([], 2)

theorem unp_len (xs : List Int) (w : Int) (k : Nat) : (unp xs w k).length = k := by unfold unp; simp
theorem unp_nth (xs : List Int) (w : Int) (k i : Nat) (hi : i < k) : nth (unp xs w k) i = fgetI w (fr xs i) (nth xs i) := by
  unfold unp nth
  simp [List.getD, hi]
theorem unp_succ (xs : List Int) (w : Int) (k : Nat) : unp xs w (k + 1) = unp xs w k ++ [fgetI w (fr xs k) (nth xs k)] := by
  unfold unp
  rw [List.range_succ, List.map_append]; rfl
theorem unpackR_64 {xs : List Int} {w : Int} {l : List Int} {q : Int} (h : unpackR xs w = (l, q)) : ∀ n ∈ l, 0 ≤ n ∧ n < 18446744073709551616 := by
  unfold unpackR at h
  split at h
  · rename_i hw
    split at h
    · cases h
      intro n hn
      unfold unp at hn
      simp only [List.mem_map, List.mem_range] at hn
      obtain ⟨i, hi, rfl⟩ := hn
      exact fgetI_64 ((wokB_iff.1 hw).may i hi)
    · cases h; simp
  · cases h; simp
theorem packR_64 {xs vs : List Int} {p q : Int} (h : packR xs vs = (p, q)) : 0 ≤ p ∧ p < 18446744073709551616 := by
  unfold packR at h
  split at h
  · rename_i hw
    split at h
    · rename_i hf
      cases h
      unfold allFits at hf
      exact of64 (pk_64 (wokB_iff.1 hw.1) _ (Nat.le_refl _) (by simpa using hf))
    · cases h; exact ⟨by decide, by decide⟩
  · cases h; exact ⟨by decide, by decide⟩
theorem fitsB_fget {w f m : Int} : fitsB (fgetI w f m) m = true := by
  unfold fitsB fgetI
  simp only [decide_eq_true_eq]
  exact fget_lt _ _ _

/-! ### There and back -/
theorem nth_ext {a b : List Int} (h : a.length = b.length) (he : ∀ i, i < a.length → nth a i = nth b i) : a = b := by
  refine List.ext_getElem h fun i h1 h2 => ?_
  have := he i h1
  simpa [nth, List.getD, h1, h2] using this

theorem fget_pk {xs vs : List Int} (h : Wok xs) (i : Nat) (hi : i < xs.length) (hv0 : ∀ i, i < xs.length → fitsB (nth vs i) (nth xs i) = true) :
    ∀ k, i < k → k ≤ xs.length → fget (pk xs vs k) (fr xs i).toNat (nth xs i).toNat = (nth vs i).toNat
  | 0, h1, _ => absurd h1 (Nat.not_lt_zero _)
  | k + 1, h1, h2 => by
    have hf := hv0 k (by omega)
    unfold fitsB at hf
    simp only [decide_eq_true_eq] at hf
    rw [← pk_fset h k (by omega) fun j hj => hv0 j (by omega)]
    rcases Nat.lt_or_ge i k with c | c
    · have := h.mono (i + 1) k (by omega) (by omega)
      obtain ⟨a, b, e1, e2, e3, e4, e5⟩ := h.at i hi
      rw [fget_apart hf (.inr (by omega))]
      exact fget_pk h i hi hv0 k c (by omega)
    · obtain rfl : i = k := by omega
      exact fget_fset hf
theorem unp_pk {xs vs : List Int} (h : Wok xs) (hl : vs.length = xs.length) (hv : ∀ i, i < xs.length → fitsB (nth vs i) (nth xs i) = true) (hn : ∀ n ∈ vs, 0 ≤ n) :
    unp xs (pk xs vs xs.length : Nat) xs.length = vs := by
  refine nth_ext (by rw [unp_len, hl]) fun i hi => ?_
  rw [unp_len] at hi
  rw [unp_nth _ _ _ _ hi]
  unfold fgetI
  rw [Int.toNat_natCast, fget_pk h i hi hv xs.length hi (Nat.le_refl _)]
  have := hn _ (nth_mem (xs := vs) (k := i) (by omega))
  omega
theorem pk_unp {xs : List Int} (h : Wok xs) (w : Int) : ∀ k, k ≤ xs.length → pk xs (unp xs w xs.length) k = w.toNat % 2 ^ (fr xs k).toNat
  | 0, _ => by show 0 = _; unfold fr; simp [Nat.mod_one]
  | k + 1, hk => by
    unfold pk
    rw [pk_unp h w k (by omega), unp_nth _ _ _ _ (by omega)]
    obtain ⟨a, b, e1, e2, e3, e4, e5⟩ := h.at k (by omega)
    rw [e5, e1]
    unfold fgetI fget
    rw [e2]
    simp only [Int.toNat_natCast]
    rw [Nat.pow_add, Nat.mod_mul]

theorem unpack_pack {xs vs : List Int} {a : Int} (h : packR xs vs = (a, 0)) (hn : ∀ n ∈ vs, 0 ≤ n) : unpackR xs a = (vs, 0) := by
  unfold packR at h
  split at h
  · rename_i hw
    split at h
    · rename_i hf
      cases h
      unfold allFits at hf
      have hf' : ∀ i, i < xs.length → fitsB (nth vs i) (nth xs i) = true := by simpa using hf
      have wk := wokB_iff.1 hw.1
      unfold unpackR
      rw [if_pos hw.1, unp_pk wk hw.2 hf' hn, if_pos]
      unfold fitsB
      simp only [decide_eq_true_eq, Int.toNat_natCast]
      exact pk_lt wk _ (Nat.le_refl _) hf'
    · cases h
  · cases h
theorem pack_unpack {xs l : List Int} {w : Int} (h : unpackR xs w = (l, 0)) (h0 : 0 ≤ w) : packR xs l = (w, 0) := by
  unfold unpackR at h
  split at h
  · rename_i hw
    split at h
    · rename_i hf
      cases h
      have wk := wokB_iff.1 hw
      unfold packR
      rw [if_pos ⟨hw, unp_len _ _ _⟩, if_pos]
      · rw [pk_unp wk w _ (Nat.le_refl _)]
        unfold fitsB at hf
        simp only [decide_eq_true_eq] at hf
        rw [Nat.mod_eq_of_lt hf, Int.toNat_of_nonneg h0]
      · unfold allFits
        simp only [decide_eq_true_eq]
        intro i hi
        rw [unp_nth _ _ _ _ hi]
        exact fitsB_fget
    · cases h
  · cases h
theorem unpackR_len {xs l : List Int} {w : Int} (h : unpackR xs w = (l, 0)) : l = unp xs w xs.length ∧ Wok xs ∧ fitsB w (fr xs xs.length) = true := by
  unfold unpackR at h
  split at h
  · split at h
    · cases h; exact ⟨rfl, wokB_iff.1 ‹_›, ‹_›⟩
    · cases h
  · cases h
theorem unpackR_bad {xs l : List Int} {w q : Int} (h : unpackR xs w = (l, q)) (hq : q ≠ 0) : l = [] := by
  unfold unpackR at h
  split at h
  · split at h
    · cases h; exact absurd rfl hq
    · cases h; rfl
  · cases h; rfl

/-! ### All fields set to 0 -/
def zs (xs : List Int) (w : Int) : Nat → Nat
  | 0 => w.toNat
  | k + 1 => fset (zs xs w k) (fr xs k).toNat (nth xs k).toNat 0
theorem zs_bit {xs : List Int} (h : Wok xs) (w : Int) : ∀ k, k ≤ xs.length → ∀ j, (zs xs w k).testBit j = if (j : Int) < fr xs k then false else w.toNat.testBit j
  | 0, _, j => by unfold zs fr; rw [if_neg (by omega)]
  | k + 1, hk, j => by
    unfold zs
    obtain ⟨a, b, e1, e2, e3, e4, e5⟩ := h.at k (by omega)
    rw [fset_bit (Nat.two_pow_pos _), zs_bit h w k (by omega), e5, e1, e2]
    simp only [Int.toNat_natCast]
    by_cases h1 : j < a
    · rw [if_pos h1, if_pos (by omega), if_pos (by omega)]
    · rw [if_neg h1]
      by_cases h2 : j < a + b
      · rw [if_pos h2, if_pos (by omega)]; simp
      · rw [if_neg h2, if_neg (by omega), if_neg (by omega)]
theorem zs_64 {xs : List Int} (h : Wok xs) {w : Int} (h0 : 0 ≤ w) (h1 : w < 18446744073709551616) (k : Nat) (hk : k ≤ xs.length) : zs xs w k < 2 ^ 64 := by
  refine Nat.lt_pow_two_of_testBit _ fun j hj => ?_
  rw [zs_bit h w k hk, if_neg (by have := h.fr0 k hk; omega)]
  exact bit_high (lt64 h0 h1) hj
theorem zs_end {xs : List Int} (h : Wok xs) {w : Int} (hf : fitsB w (fr xs xs.length) = true) : zs xs w xs.length = 0 := by
  refine Nat.eq_of_testBit_eq fun j => ?_
  rw [zs_bit h w _ (Nat.le_refl _)]
  unfold fitsB at hf
  simp only [decide_eq_true_eq] at hf
  by_cases hj : (j : Int) < fr xs xs.length
  · rw [if_pos hj]; simp
  · rw [if_neg hj, bit_over hf (by omega)]; simp
theorem gset_zs {xs : List Int} (h : Wok xs) (w : Int) (k : Nat) (hk : k < xs.length) : gset (zs xs w k : Nat) (fr xs k) (nth xs k) 0 = (((zs xs w (k + 1) : Nat) : Int), 0) := by
  unfold gset
  rw [if_pos (h.may k hk), if_pos (by unfold fitsB; simp; exact Nat.two_pow_pos _)]
  unfold fsetI
  simp only [Int.toNat_natCast]
  rfl

end Go.Proofs.YtjdagameeopadaaDoor
