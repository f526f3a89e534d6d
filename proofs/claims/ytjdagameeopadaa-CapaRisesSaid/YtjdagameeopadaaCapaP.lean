/-
  Plain Lean on handles as words: what capa.Put, Get, Next and Elder compute. No program is named here.
-/
import Derived.Test.YtjdagameeopadaaWidP
namespace Go.Proofs.Ytjdagameeopadaa

structure Hnd where
  t : Int
  i : Int
  g : Int

/-- 32, 24 and 8 bits. -/
def hws : List Int := [32, 24, 8]
theorem hws_ok : Wok hws := wokB_iff.1 (by decide)
theorem hws_fr : fr hws 0 = 0 ∧ fr hws 1 = 32 ∧ fr hws 2 = 56 ∧ fr hws 3 = 64 := by decide

def hok (c : Hnd) : Prop := c.g ≠ 0 ∧ 0 ≤ c.t ∧ c.t < 256 ∧ 0 ≤ c.i ∧ c.i < 16777216
instance (c : Hnd) : Decidable (hok c) := by unfold hok; infer_instance
def hword (c : Hnd) : Int := c.g + c.i * 4294967296 + c.t * 72057594037927936
def hput (c : Hnd) : Int × Int := if hok c then (hword c, 0) else (0, 2)
def hraw (w : Int) : Hnd := ⟨w / 72057594037927936, w / 4294967296 % 16777216, w % 4294967296⟩
def hnil : Hnd := ⟨0, 0, 0⟩
def hget (w : Int) : Hnd × Int := if w % 4294967296 = 0 then (hnil, 130) else (hraw w, 0)
def hnext (w gens : Int) : Int × Int :=
  if gens < 1 ∨ 2147483648 < gens then (0, 2)
  else if (hget w).2 ≠ 0 then (0, 130) else if gens ≤ (hget w).1.g then (0, 131) else (w + 1, 0)
def helder (a b : Int) : Bool := decide ((hget a).2 = 0 ∧ (hget b).2 = 0 ∧ a / 4294967296 = b / 4294967296 ∧ a < b)

/-- The words of the parts, put together by field.Pack. -/
theorem hput_pack {c : Hnd} (h : hok c) (hg : 0 ≤ c.g ∧ c.g < 4294967296) : packR hws [c.g, c.i, c.t] = (hword c, 0) := by
  obtain ⟨t, i, g⟩ := c
  obtain ⟨h1, h2, h3, h4, h5⟩ := h
  simp only at h1 h2 h3 h4 h5 hg
  unfold packR
  rw [if_pos ⟨wokB_iff.2 hws_ok, rfl⟩, if_pos]
  · show (((pk hws [g, i, t] 3 : Nat) : Int), (0 : Int)) = (g + i * 4294967296 + t * 72057594037927936, 0)
    have e : pk hws [g, i, t] 3 = 0 + 2 ^ 0 * g.toNat + 2 ^ 32 * i.toNat + 2 ^ 56 * t.toNat := rfl
    rw [e]
    congr 1
    omega
  · unfold allFits
    simp only [decide_eq_true_eq]
    intro k hk
    have hk3 : k < 3 := hk
    unfold fitsB
    simp only [decide_eq_true_eq]
    match k, hk3 with
    | 0, _ => show g.toNat < 2 ^ 32; omega
    | 1, _ => show i.toNat < 2 ^ 24; omega
    | 2, _ => show t.toNat < 2 ^ 8; omega
theorem hget_unpack {w : Int} (h0 : 0 ≤ w) (h1 : w < 18446744073709551616) : unpackR hws w = ([(hraw w).g, (hraw w).i, (hraw w).t], 0) := by
  unfold unpackR
  rw [if_pos (wokB_iff.2 hws_ok), if_pos]
  · have e : unp hws w 3 = [fgetI w 0 32, fgetI w 32 24, fgetI w 56 8] := rfl
    show (unp hws w 3, (0 : Int)) = _
    rw [e]
    obtain ⟨n, rfl⟩ := Int.eq_ofNat_of_zero_le h0
    unfold fgetI fget hraw
    have a1 : n / 2 ^ (0 : Int).toNat % 2 ^ (32 : Int).toNat = n % 4294967296 := by show n / 1 % 4294967296 = _; rw [Nat.div_one]
    have a2 : n / 2 ^ (32 : Int).toNat % 2 ^ (24 : Int).toNat = n / 4294967296 % 16777216 := rfl
    have a3 : n / 2 ^ (56 : Int).toNat % 2 ^ (8 : Int).toNat = n / 72057594037927936 := by
      show n / 72057594037927936 % 256 = _
      omega
    rw [Int.toNat_natCast, a1, a2, a3]
    simp
  · unfold fitsB
    simp only [decide_eq_true_eq]
    show w.toNat < 2 ^ 64
    exact lt64 h0 h1

theorem hword_64 {c : Hnd} (h : hok c) (hg : 0 ≤ c.g ∧ c.g < 4294967296) : 0 < hword c ∧ hword c < 18446744073709551616 := by
  obtain ⟨h1, h2, h3, h4, h5⟩ := h
  unfold hword; omega
theorem hget_word {c : Hnd} (h : hok c) (hg : 0 ≤ c.g ∧ c.g < 4294967296) : hget (hword c) = (c, 0) := by
  obtain ⟨t, i, g⟩ := c
  obtain ⟨h1, h2, h3, h4, h5⟩ := h
  simp only at h1 h2 h3 h4 h5 hg
  have e1 : hword ⟨t, i, g⟩ % 4294967296 = g := by unfold hword; simp only; omega
  have e2 : hword ⟨t, i, g⟩ / 4294967296 % 16777216 = i := by unfold hword; simp only; omega
  have e3 : hword ⟨t, i, g⟩ / 72057594037927936 = t := by unfold hword; simp only; omega
  unfold hget hraw
  rw [e1, e2, e3, if_neg h1]
theorem hraw_ok {w : Int} (h0 : 0 ≤ w) (h1 : w < 18446744073709551616) (h : w % 4294967296 ≠ 0) : hok (hraw w) ∧ hword (hraw w) = w ∧ 0 ≤ (hraw w).g ∧ (hraw w).g < 4294967296 := by
  unfold hok hraw hword
  simp only
  refine ⟨⟨h, ?_, ?_, ?_, ?_⟩, ?_, ?_, ?_⟩ <;> omega

end Go.Proofs.Ytjdagameeopadaa
