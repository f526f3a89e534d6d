/-
  Plain laws on classes: rounding up, and each class itself. No program is named here.
-/
import Derived.Test.YtcnaabkimgkpbaaClassP
namespace Go.Proofs.Ytcnaabkimgkpbaa

theorem cof_mk {xs : List Int} {w : Int} {r : Nat} (h : ccheck xs = 0) (hr : r < xs.length) (h1 : nth xs r = w ∨ (w ≤ nth xs r ∧ ∀ i, i < r → nth xs i < w)) (hw : 1 ≤ w) : cof xs w = ((r : Int), 0) := by
  have ho := ccheck_ok h
  have hb : r = below xs w := by
    refine below_uniq (by omega) (fun i hi => ?_) (fun _ => by rcases h1 with h1 | h1; omega; exact h1.1)
    rcases h1 with h1 | h1
    · have := ho.inc i r hi hr; omega
    · exact h1.2 i hi
  unfold cof
  rw [if_neg (by omega), if_neg (by rw [← hb]; omega), ← hb]

structure Rounded (xs : List Int) (lo x : Int) (r : Nat) : Prop where
  lt : r < xs.length
  at_ : nth xs r = x
  ok : ccheck xs = 0
  again : cround xs x = (x, 0)
  of : cof xs lo = ((r : Int), 0)
  waste : cwaste xs lo = (x - lo, 0)
  le : lo ≤ x
  pos : 1 ≤ lo
  top : x ≤ 64
  prev : 0 < r → nth xs (r - 1) < lo ∧ 2 ≤ nth xs (r - 1)
  len : xs.length ≤ 8

theorem cround_facts {xs : List Int} {lo x : Int} (h : cround xs lo = (x, 0)) : ∃ r, Rounded xs lo x r := by
  have h0 : (cround xs lo).2 = 0 := by rw [h]
  have hx : (cround xs lo).1 = x := by rw [h]
  unfold cround at h0 hx
  split at h0
  · exact absurd h0 ‹_›
  · rename_i h1
    rw [if_neg h1] at hx
    unfold cof at h1 hx
    by_cases hc : ccheck xs = 0
    · rw [if_neg (by omega)] at h1 hx
      by_cases hb : below xs lo = xs.length ∨ lo < 1
      · rw [if_pos hb] at h1; omega
      · rw [if_neg hb] at hx
        simp only [Int.toNat_natCast] at hx
        have ho := ccheck_ok hc
        have hlt : below xs lo < xs.length := by have := below_le xs lo; omega
        have hle := below_at xs lo hlt
        rw [hx] at hle
        have hof : cof xs lo = ((below xs lo : Int), 0) := cof_mk hc hlt (.inr ⟨by rw [hx]; exact hle, below_lt xs lo⟩) (by omega)
        have hox : cof xs x = ((below xs lo : Int), 0) := cof_mk hc hlt (.inl hx) (by omega)
        refine ⟨below xs lo, hlt, hx, hc, ?_, hof, ?_, hle, by omega, ?_, ?_, ho.most⟩
        · unfold cround; rw [hox]; simp [hx]
        · unfold cwaste cround; rw [hof]; simp [hx]
        · rw [← hx]; exact ho.top _ hlt
        · intro hp; exact ⟨below_lt xs lo _ (by omega), ho.least _ (by omega)⟩
    · rw [if_pos hc] at h1; exact absurd hc (by simpa using h1)

theorem cround_mono {xs : List Int} {lo hi x y : Int} (h : cround xs lo = (x, 0)) (h' : cround xs hi = (y, 0)) (hle : lo ≤ hi) : x ≤ y := by
  obtain ⟨r, R⟩ := cround_facts h
  obtain ⟨s, S⟩ := cround_facts h'
  have ho := ccheck_ok R.ok
  rcases Nat.lt_trichotomy r s with c | c | c
  · have := ho.inc r s c S.lt; have := R.at_; have := S.at_; omega
  · have := R.at_; have := S.at_; rw [c] at *; omega
  · have h1 := (R.prev (by omega)).1
    have h2 := S.le
    have h3 := S.at_
    rcases Nat.lt_or_ge s (r - 1) with c' | c'
    · have := ho.inc s (r - 1) c' (by have := R.lt; omega); omega
    · have : s = r - 1 := by omega
      rw [this] at h3; omega

theorem each_own {xs : List Int} (h : ccheck xs = 0) {i : Nat} (hi : i < xs.length) : cof xs (nth xs i) = ((i : Int), 0) :=
  cof_mk h hi (.inl rfl) (by have := (ccheck_ok h).least i hi; omega)
theorem each_next {xs : List Int} (h : ccheck xs = 0) {i : Nat} (hi : i + 1 < xs.length) : cof xs (nth xs i + 1) = (((i + 1 : Nat) : Int), 0) := by
  have ho := ccheck_ok h
  refine cof_mk h hi (.inr ⟨by have := ho.inc i (i + 1) (by omega) hi; omega, fun j hj => ?_⟩) (by have := ho.least i (by omega); omega)
  rcases Nat.lt_or_ge j i with c | c
  · have := ho.inc j i c (by omega); omega
  · obtain rfl : j = i := by omega
    omega
theorem each_last {xs : List Int} (h : ccheck xs = 0) {i : Nat} (hi : i + 1 = xs.length) : cof xs (nth xs i + 1) = (0, 50) := by
  have ho := ccheck_ok h
  have hb : xs.length = below xs (nth xs i + 1) := by
    refine below_uniq (Nat.le_refl _) (fun j hj => ?_) (fun h => absurd h (Nat.lt_irrefl _))
    rcases Nat.lt_or_ge j i with c | c
    · have := ho.inc j i c (by omega); omega
    · obtain rfl : j = i := by omega
      omega
  unfold cof
  rw [if_neg (by omega), if_pos (.inl hb.symm)]
theorem each_first {xs : List Int} (h : ccheck xs = 0) : cof xs 1 = (((0 : Nat) : Int), 0) :=
  cof_mk h (ccheck_ok h).pos (.inr ⟨by have := (ccheck_ok h).least 0 (ccheck_ok h).pos; omega, fun i hi => absurd hi (Nat.not_lt_zero _)⟩) (by omega)

end Go.Proofs.Ytcnaabkimgkpbaa
