/-
  Plain Lean on rows of bits, as lists of truths and as words of 64 bits. No program is named here.
-/
import Derived.Test.YtfhnjecnamgpkaaDoorPopP
namespace Go.Proofs.YtfhnjecnamgpkaaDoor

def bnth (bs : List Bool) (i : Nat) : Bool := bs.getD i false
theorem bnth_out {bs : List Bool} {i : Nat} (h : bs.length ≤ i) : bnth bs i = false := by unfold bnth; simp [h]
theorem bnth_at {bs : List Bool} {i : Nat} (h : i < bs.length) : bs[i]? = some (bnth bs i) := by unfold bnth; simp [List.getD, h]
theorem bnth_set {bs : List Bool} {i j : Nat} {b : Bool} (h : i < bs.length) : bnth (bs.set i b) j = if j = i then b else bnth bs j := by
  unfold bnth
  by_cases e : j = i
  · subst e; simp [h]
  · rw [if_neg e]
    simp [List.getD, List.getElem?_set, Ne.symm e]
theorem bext {as bs : List Bool} (hl : as.length = bs.length) (h : ∀ i, i < as.length → bnth as i = bnth bs i) : as = bs := by
  apply List.ext_getElem hl
  intro i h1 h2
  have := h i h1
  unfold bnth at this
  simpa [List.getD, h1, h2] using this
theorem bnth_rep {n i : Nat} {b : Bool} (h : i < n) : bnth (List.replicate n b) i = b := by unfold bnth; simp [List.getD, h]
theorem bnth_rep0 (n i : Nat) : bnth (List.replicate n false) i = false := by
  by_cases h : i < n
  · exact bnth_rep h
  · exact bnth_out (by simp; omega)

/-! ### Sums of powers -/
def wsum (f : Nat → Bool) : Nat → Nat
  | 0 => 0
  | j + 1 => 2 ^ j * (f j).toNat + wsum f j
theorem wsum_succ (f : Nat → Bool) (j : Nat) : wsum f (j + 1) = 2 ^ j * (f j).toNat + wsum f j := rfl
theorem wsum_lt (f : Nat → Bool) : ∀ n, wsum f n < 2 ^ n
  | 0 => Nat.zero_lt_one
  | n + 1 => by
    have := wsum_lt f n
    rw [wsum_succ, Nat.pow_succ]
    cases f n <;> simp <;> omega
theorem wsum_bit (f : Nat → Bool) : ∀ n j, (wsum f n).testBit j = (decide (j < n) && f j)
  | 0, j => by simp [wsum]
  | n + 1, j => by
    rw [wsum_succ, Nat.testBit_two_pow_mul_add _ (wsum_lt f n)]
    by_cases hj : j < n
    · rw [if_pos hj, wsum_bit f n j]
      simp [hj, Nat.lt_succ_of_lt hj]
    · rw [if_neg hj]
      by_cases e : j = n
      · subst e
        cases f j <;> simp
      · have h1 : ¬ j < n + 1 := by omega
        obtain ⟨m, hm⟩ : ∃ m, j - n = m + 1 := ⟨j - n - 1, by omega⟩
        rw [hm]
        cases f n <;> simp [h1, Nat.testBit_succ]
theorem wsum_eq {f : Nat → Bool} {n x : Nat} (hx : x < 2 ^ n) (h : ∀ j, j < n → x.testBit j = f j) : x = wsum f n := by
  apply Nat.eq_of_testBit_eq
  intro j
  rw [wsum_bit]
  by_cases hj : j < n
  · simp [hj, h j hj]
  · rw [Nat.testBit_lt_two_pow (Nat.lt_of_lt_of_le hx (Nat.pow_le_pow_right (by decide) (by omega)))]
    simp [hj]

/-! ### Words of a row -/
def wlen (n : Nat) : Nat := (n + 63) / 64
def wd (bs : List Bool) (k : Nat) : Nat := wsum (fun j => bnth bs (64 * k + j)) 64
def wds (bs : List Bool) : List Int := (List.range (wlen bs.length)).map fun k => ((wd bs k : Nat) : Int)
theorem wds_len (bs : List Bool) : (wds bs).length = wlen bs.length := by unfold wds; simp
theorem wds_get {bs : List Bool} {k : Nat} (h : k < (wds bs).length) : (wds bs)[k] = ((wd bs k : Nat) : Int) := by simp [wds]
theorem wds_nth {bs : List Bool} {k : Nat} (h : k < wlen bs.length) : nth (wds bs) k = (wd bs k : Nat) := by
  unfold nth wds; simp [List.getD, h]
theorem wd_lt (bs : List Bool) (k : Nat) : wd bs k < 18446744073709551616 := wsum_lt _ 64
theorem wd_bit (bs : List Bool) (k j : Nat) (h : j < 64) : (wd bs k).testBit j = bnth bs (64 * k + j) := by
  unfold wd; rw [wsum_bit]; simp [h]
theorem wd_eq {bs : List Bool} {k x : Nat} (hx : x < 18446744073709551616) (h : ∀ j, j < 64 → x.testBit j = bnth bs (64 * k + j)) : x = wd bs k :=
  wsum_eq hx h
theorem wd_high {x j : Nat} (hx : x < 18446744073709551616) (h : 64 ≤ j) : x.testBit j = false :=
  Nat.testBit_lt_two_pow (Nat.lt_of_lt_of_le hx (show 2 ^ 64 ≤ 2 ^ j from Nat.pow_le_pow_right (by decide) h))
theorem wds_64 (bs : List Bool) : ∀ n ∈ wds bs, 0 ≤ n ∧ n < 18446744073709551616 := by
  intro n hn
  unfold wds at hn
  simp only [List.mem_map] at hn
  obtain ⟨k, _, rfl⟩ := hn
  have := wd_lt bs k
  omega
theorem wd_zero {bs : List Bool} {k : Nat} (h : ∀ j, j < 64 → bnth bs (64 * k + j) = false) : wd bs k = 0 :=
  (wd_eq (by decide) fun j hj => by rw [h j hj, Nat.zero_testBit]).symm

theorem wds_set {bs : List Bool} {i : Nat} {b : Bool} (h : i < bs.length) : wds (bs.set i b) = (wds bs).set (i / 64) ((wd (bs.set i b) (i / 64) : Nat) : Int) := by
  apply List.ext_getElem
  · simp [wds_len]
  · intro k h1 h2
    rw [List.getElem_set]
    by_cases e : i / 64 = k
    · subst e
      rw [if_pos rfl, wds_get]
    · rw [if_neg e, wds_get, wds_get]
      have hw : wd (bs.set i b) k = wd bs k := wd_eq (wd_lt _ _) fun j hj => by rw [wd_bit _ _ _ hj, bnth_set h, if_neg (by omega)]
      rw [hw]
theorem wd_set_true {bs : List Bool} {i : Nat} (h : i < bs.length) : wd (bs.set i true) (i / 64) = wd bs (i / 64) ||| 2 ^ (i % 64) := by
  symm
  refine wd_eq ?_ fun j hj => ?_
  · exact Nat.or_lt_two_pow (n := 64) (wd_lt _ _) (Nat.pow_lt_pow_right (by decide) (by omega))
  · rw [Nat.testBit_or, wd_bit _ _ _ hj, bnth_set h, Nat.testBit_two_pow]
    by_cases e : j = i % 64
    · rw [if_pos (by omega)]; simp [e]
    · rw [if_neg (by omega)]
      have : ¬ i % 64 = j := fun a => e a.symm
      simp [this]
theorem wd_set_false {bs : List Bool} {i : Nat} (h : i < bs.length) : wd (bs.set i false) (i / 64) = wd bs (i / 64) &&& (18446744073709551616 - (2 ^ (i % 64) + 1)) := by
  symm
  have hp : 2 ^ (i % 64) < 2 ^ 64 := Nat.pow_lt_pow_right (by decide) (by omega)
  refine wd_eq (Nat.lt_of_le_of_lt Nat.and_le_left (wd_lt _ _)) fun j hj => ?_
  rw [Nat.testBit_and, wd_bit _ _ _ hj, bnth_set h, show 18446744073709551616 - (2 ^ (i % 64) + 1) = 2 ^ 64 - (2 ^ (i % 64) + 1) from rfl, Nat.testBit_two_pow_sub_succ hp, Nat.testBit_two_pow]
  by_cases e : j = i % 64
  · rw [if_pos (by omega)]; simp [e]
  · rw [if_neg (by omega)]
    have : ¬ i % 64 = j := fun a => e a.symm
    simp [this, hj]

/-! ### One row less another -/
def bless (as bs : List Bool) : List Bool := (List.range as.length).map fun i => bnth as i && !bnth bs i
theorem bless_len (as bs : List Bool) : (bless as bs).length = as.length := by unfold bless; simp
theorem bless_nth (as bs : List Bool) (i : Nat) : bnth (bless as bs) i = (bnth as i && !bnth bs i) := by
  by_cases h : i < as.length
  · unfold bless bnth; simp [List.getD, h]
  · rw [bnth_out (by rw [bless_len]; omega), bnth_out (bs := as) (by omega)]; rfl
theorem wd_bless (as bs : List Bool) (k : Nat) : wd (bless as bs) k = wd as k &&& (18446744073709551616 - (wd bs k + 1)) := by
  symm
  refine wd_eq (Nat.lt_of_le_of_lt Nat.and_le_left (wd_lt _ _)) fun j hj => ?_
  rw [Nat.testBit_and, wd_bit _ _ _ hj, bless_nth, show 18446744073709551616 - (wd bs k + 1) = 2 ^ 64 - (wd bs k + 1) from rfl, Nat.testBit_two_pow_sub_succ (wd_lt bs k), wd_bit _ _ _ hj]
  simp [hj]

/-! ### How many -/
def bcnt (bs : List Bool) : Nat → Nat
  | 0 => 0
  | m + 1 => bcnt bs m + (bnth bs m).toNat
theorem bcnt_succ (bs : List Bool) (m : Nat) : bcnt bs (m + 1) = bcnt bs m + (bnth bs m).toNat := rfl
theorem bcnt_le (bs : List Bool) : ∀ m, bcnt bs m ≤ m
  | 0 => Nat.le_refl 0
  | m + 1 => by have := bcnt_le bs m; rw [bcnt_succ]; cases bnth bs m <;> simp <;> omega
theorem bcnt_out (bs : List Bool) : ∀ m, bs.length ≤ m → bcnt bs m = bcnt bs bs.length := by
  intro m h
  induction m with
  | zero => rw [Nat.le_zero.1 h]
  | succ m ih =>
    by_cases e : bs.length = m + 1
    · rw [e]
    · rw [bcnt_succ, ih (by omega), bnth_out (by omega)]
      rfl
theorem popc_wsum (f : Nat → Bool) : ∀ n, popc n (wsum f n) = (List.range n).foldl (fun a j => a + (f j).toNat) 0
  | 0 => rfl
  | n + 1 => by
    rw [popc_split n 1, List.range_succ, List.foldl_append, ← popc_wsum f n, wsum_succ, Nat.add_comm (2 ^ n * _), popc_mod]
    have e : (wsum f n + 2 ^ n * (f n).toNat) / 2 ^ n = (f n).toNat := by
      rw [Nat.add_mul_div_left _ _ (Nat.two_pow_pos n), Nat.div_eq_of_lt (wsum_lt f n), Nat.zero_add]
    rw [e]
    cases hf : f n <;> simp [popc, hf]
theorem bcnt_fold (bs : List Bool) (a : Nat) : ∀ n, bcnt bs (a + n) = bcnt bs a + (List.range n).foldl (fun s j => s + (bnth bs (a + j)).toNat) 0
  | 0 => rfl
  | n + 1 => by
    rw [List.range_succ, List.foldl_append, ← Nat.add_assoc, bcnt_succ, bcnt_fold bs a n, Nat.add_assoc]
    rfl
theorem bcnt_word (bs : List Bool) (k : Nat) : bcnt bs (64 * k) + popc 64 (wd bs k) = bcnt bs (64 * (k + 1)) := by
  unfold wd
  rw [popc_wsum, show 64 * (k + 1) = 64 * k + 64 by omega, bcnt_fold bs (64 * k) 64]
theorem bcnt_all (bs : List Bool) : bcnt bs (64 * wlen bs.length) = bcnt bs bs.length := bcnt_out bs _ (by unfold wlen; omega)

/-! ### The next one -/
def IsNext (bs : List Bool) (fm : Int) (is : Bool) (p : Int) (q : Bool) : Prop :=
  (q = true ∧ ∃ i : Nat, p = i ∧ fm ≤ i ∧ i < bs.length ∧ bnth bs i = is ∧ ∀ j : Nat, fm ≤ j → j < i → bnth bs j = !is) ∨
  (q = false ∧ p = 0 ∧ ∀ j : Nat, fm ≤ j → j < bs.length → bnth bs j = !is)
theorem first_from (P : Nat → Bool) (a n : Nat) : (∀ i, a ≤ i → i < n → P i = false) ∨ ∃ k, a ≤ k ∧ k < n ∧ (∀ i, a ≤ i → i < k → P i = false) ∧ P k = true := by
  induction n with
  | zero => exact .inl fun i _ h => absurd h (Nat.not_lt_zero i)
  | succ n ih =>
    rcases ih with h | ⟨k, h1, h2, h3, h4⟩
    · by_cases ha : a ≤ n
      · cases hp : P n
        · left
          intro i hi hn
          rcases Nat.lt_or_ge i n with c | c
          · exact h i hi c
          · obtain rfl : i = n := by omega
            exact hp
        · exact .inr ⟨n, ha, Nat.lt_succ_self n, h, hp⟩
      · exact .inl fun i hi hn => absurd hi (by omega)
    · exact .inr ⟨k, h1, by omega, h3, h4⟩
theorem next_exists (bs : List Bool) (fm : Int) (is : Bool) : ∃ p q, IsNext bs fm is p q := by
  rcases first_from (fun i => bnth bs i == is) fm.toNat bs.length with h | ⟨k, h1, h2, h3, h4⟩
  · refine ⟨0, false, .inr ⟨rfl, rfl, fun j hj hl => ?_⟩⟩
    have := h j (by omega) hl
    revert this; cases bnth bs j <;> cases is <;> simp
  · refine ⟨k, true, .inl ⟨rfl, k, rfl, by omega, h2, by simpa using h4, fun j hj hl => ?_⟩⟩
    have := h3 j (by omega) hl
    revert this; cases bnth bs j <;> cases is <;> simp
theorem IsNext.same {bs : List Bool} {fm : Int} {is : Bool} {p p' : Int} {q q' : Bool} (h : IsNext bs fm is p q) (h' : IsNext bs fm is p' q') : p = p' ∧ q = q' := by
  rcases h with ⟨rfl, i, rfl, h1, h2, h3, h4⟩ | ⟨rfl, rfl, h4⟩
  · rcases h' with ⟨rfl, j, rfl, g1, g2, g3, g4⟩ | ⟨rfl, rfl, g4⟩
    · rcases Nat.lt_trichotomy i j with c | c | c
      · have := g4 i h1 c; rw [h3] at this; cases is <;> cases this
      · exact ⟨by rw [c], rfl⟩
      · have := h4 j g1 c; rw [g3] at this; cases is <;> cases this
    · have := g4 i h1 h2; rw [h3] at this; cases is <;> cases this
  · rcases h' with ⟨rfl, j, rfl, g1, g2, g3, g4⟩ | ⟨rfl, rfl, g4⟩
    · have := h4 j g1 g2; rw [g3] at this; cases is <;> cases this
    · exact ⟨rfl, rfl⟩

end Go.Proofs.YtfhnjecnamgpkaaDoor
