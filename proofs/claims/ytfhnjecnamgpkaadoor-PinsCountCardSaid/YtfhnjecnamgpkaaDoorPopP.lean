/-
  Plain Lean on the number of one bits: the sums by halves that math/bits.OnesCount64 forms. No program is named here.
-/
import Derived.Test.YtfhnjecnamgpkaaDoorBase
namespace Go.Proofs.YtfhnjecnamgpkaaDoor

/-- How many of the lowest n bits are 1. -/
def popc : Nat → Nat → Nat
  | 0, _ => 0
  | n + 1, x => x % 2 + popc n (x / 2)

theorem popc_succ (n x : Nat) : popc (n + 1) x = x % 2 + popc n (x / 2) := rfl
theorem popc_le : ∀ n x, popc n x ≤ n
  | 0, _ => Nat.le_refl 0
  | n + 1, x => by have := popc_le n (x / 2); unfold popc; omega

theorem popc_split : ∀ (n m x : Nat), popc (n + m) x = popc n x + popc m (x / 2 ^ n)
  | 0, m, x => by simp [popc]
  | n + 1, m, x => by
    have e : n + 1 + m = (n + m) + 1 := by omega
    rw [e, popc_succ, popc_succ, popc_split n m (x / 2), Nat.div_div_eq_div_mul, show 2 * 2 ^ n = 2 ^ (n + 1) by rw [Nat.pow_succ]; omega]
    omega
theorem popc_mod : ∀ (n x y : Nat), popc n (x + 2 ^ n * y) = popc n x
  | 0, _, _ => rfl
  | n + 1, x, y => by
    rw [popc_succ, popc_succ]
    have e : x + 2 ^ (n + 1) * y = x + 2 * (2 ^ n * y) := by rw [Nat.pow_succ, Nat.mul_comm (2 ^ n) 2, Nat.mul_assoc]
    rw [e, show (x + 2 * (2 ^ n * y)) / 2 = x / 2 + 2 ^ n * y by omega, popc_mod n (x / 2) y]
    omega

/-- Bytes, the lowest first. -/
def bval : List Nat → Nat
  | [] => 0
  | b :: r => b + 256 * bval r
theorem bval_cons (b : Nat) (r : List Nat) : bval (b :: r) = b + 256 * bval r := rfl
def s1 (b : Nat) : Nat := (b / 2 &&& 85) + (b &&& 85)
def s2 (b : Nat) : Nat := (b / 4 &&& 51) + (b &&& 51)
def s3 (b : Nat) : Nat := (b / 16 + b) &&& 15
def rep (c : Nat) : Nat → Nat
  | 0 => 0
  | n + 1 => c + 256 * rep c n

theorem and_split (y b m c : Nat) (hb : b < 256) (hc : c < 256) : (b + 256 * y) &&& (c + 256 * m) = (b &&& c) + 256 * (y &&& m) := by
  have h : (b &&& c) < 2 ^ 8 := Nat.lt_of_le_of_lt Nat.and_le_left hb
  apply Nat.eq_of_testBit_eq
  intro i
  rw [Nat.testBit_and, Nat.add_comm b, Nat.add_comm c, Nat.add_comm (b &&& c), show 256 = 2 ^ 8 from rfl, Nat.testBit_two_pow_mul_add _ hb, Nat.testBit_two_pow_mul_add _ hc, Nat.testBit_two_pow_mul_add _ h]
  split
  · rw [Nat.testBit_and]
  · rw [Nat.testBit_and]

theorem half1 : ∀ (r : Fin 2) (b : Fin 256), (128 * r.val + b.val / 2) &&& 85 = b.val / 2 &&& 85 := by decide +kernel
theorem half2 : ∀ (r : Fin 4) (b : Fin 256), (64 * r.val + b.val / 4) &&& 51 = b.val / 4 &&& 51 := by decide +kernel
theorem half3 : ∀ (r : Fin 5) (a b : Fin 5), (16 * r.val + (16 * a.val + b.val) / 16 + (16 * a.val + b.val)) &&& 15 = s3 (16 * a.val + b.val) := by decide +kernel
theorem small2 : ∀ b : Fin 256, s2 (s1 b.val) / 16 ≤ 4 ∧ s2 (s1 b.val) % 16 ≤ 4 := by decide +kernel
theorem byte8 : ∀ b : Fin 256, s3 (s2 (s1 b.val)) = popc 8 b.val := by decide +kernel
theorem s1_lt : ∀ b : Fin 256, s1 b.val < 256 := by decide +kernel
theorem s2_lt : ∀ b : Fin 256, s2 b.val < 256 := by decide +kernel

theorem step1 (bs : List Nat) (h : ∀ b ∈ bs, b < 256) : (bval bs / 2 &&& rep 85 bs.length) + (bval bs &&& rep 85 bs.length) = bval (bs.map s1) := by
  induction bs with
  | nil => rfl
  | cons b r ih =>
    have hb : b < 256 := h b (by simp)
    have ih := ih fun x hx => h x (by simp [hx])
    have e : bval (b :: r) / 2 = (128 * (bval r % 2) + b / 2) + 256 * (bval r / 2) := by rw [bval_cons]; omega
    rw [e]
    show ((128 * (bval r % 2) + b / 2) + 256 * (bval r / 2) &&& (85 + 256 * rep 85 r.length)) + ((b + 256 * bval r) &&& (85 + 256 * rep 85 r.length)) = s1 b + 256 * bval (r.map s1)
    rw [and_split _ _ _ _ (by omega) (by omega), and_split _ _ _ _ hb (by omega), ← ih]
    have := half1 ⟨bval r % 2, by omega⟩ ⟨b, hb⟩
    simp only at this
    rw [this]
    unfold s1
    omega
theorem step2 (bs : List Nat) (h : ∀ b ∈ bs, b < 256) : (bval bs / 4 &&& rep 51 bs.length) + (bval bs &&& rep 51 bs.length) = bval (bs.map s2) := by
  induction bs with
  | nil => rfl
  | cons b r ih =>
    have hb : b < 256 := h b (by simp)
    have ih := ih fun x hx => h x (by simp [hx])
    have e : bval (b :: r) / 4 = (64 * (bval r % 4) + b / 4) + 256 * (bval r / 4) := by rw [bval_cons]; omega
    rw [e]
    show ((64 * (bval r % 4) + b / 4) + 256 * (bval r / 4) &&& (51 + 256 * rep 51 r.length)) + ((b + 256 * bval r) &&& (51 + 256 * rep 51 r.length)) = s2 b + 256 * bval (r.map s2)
    rw [and_split _ _ _ _ (by omega) (by omega), and_split _ _ _ _ hb (by omega), ← ih]
    have := half2 ⟨bval r % 4, by omega⟩ ⟨b, hb⟩
    simp only at this
    rw [this]
    unfold s2
    omega
theorem step3 (bs : List Nat) (h : ∀ b ∈ bs, b / 16 ≤ 4 ∧ b % 16 ≤ 4) : (bval bs / 16 + bval bs) &&& rep 15 bs.length = bval (bs.map s3) := by
  induction bs with
  | nil => rfl
  | cons b r ih =>
    have hb := h b (by simp)
    have hr : bval r % 16 ≤ 4 := by
      cases r with
      | nil => decide
      | cons c q => have := h c (by simp); rw [bval_cons]; omega
    have ih := ih fun x hx => h x (by simp [hx])
    have e : bval (b :: r) / 16 + bval (b :: r) = (16 * (bval r % 16) + b / 16 + b) + 256 * (bval r / 16 + bval r) := by rw [bval_cons]; omega
    rw [e]
    show ((16 * (bval r % 16) + b / 16 + b) + 256 * (bval r / 16 + bval r)) &&& (15 + 256 * rep 15 r.length) = s3 b + 256 * bval (r.map s3)
    rw [and_split _ _ _ _ (by omega) (by omega), ih]
    have := half3 ⟨bval r % 16, by omega⟩ ⟨b / 16, by omega⟩ ⟨b % 16, by omega⟩
    simp only at this
    rw [show 16 * (b / 16) + b % 16 = b by omega] at this
    rw [this]

def bytes8 (x : Nat) : List Nat := [x % 256, x / 256 % 256, x / 65536 % 256, x / 16777216 % 256, x / 4294967296 % 256, x / 1099511627776 % 256, x / 281474976710656 % 256, x / 72057594037927936 % 256]
theorem bytes8_val {x : Nat} (h : x < 18446744073709551616) : bval (bytes8 x) = x := by
  unfold bytes8
  simp only [bval]
  omega
theorem bytes8_lt (x : Nat) : ∀ b ∈ bytes8 x, b < 256 := by
  intro b hb
  unfold bytes8 at hb
  simp only [List.mem_cons, List.not_mem_nil, or_false] at hb
  omega
theorem popc_bytes (x : Nat) : popc 64 x = popc 8 (x % 256) + popc 8 (x / 256 % 256) + popc 8 (x / 65536 % 256) + popc 8 (x / 16777216 % 256) + popc 8 (x / 4294967296 % 256) + popc 8 (x / 1099511627776 % 256) + popc 8 (x / 281474976710656 % 256) + popc 8 (x / 72057594037927936 % 256) := by
  have m : ∀ y, popc 8 y = popc 8 (y % 256) := fun y => by
    have := popc_mod 8 (y % 256) (y / 256)
    rw [← this, show (2 : Nat) ^ 8 = 256 from rfl, Nat.mod_add_div]
  have s : ∀ k y, popc (8 + k) y = popc 8 (y % 256) + popc k (y / 256) := fun k y => by rw [popc_split 8 k y, ← m]
  have h1 : popc 64 x = popc 8 (x % 256) + popc 56 (x / 256) := s 56 x
  have h2 : popc 56 (x / 256) = popc 8 (x / 256 % 256) + popc 48 (x / 256 / 256) := s 48 _
  have h3 : popc 48 (x / 256 / 256) = popc 8 (x / 256 / 256 % 256) + popc 40 (x / 256 / 256 / 256) := s 40 _
  have h4 : popc 40 (x / 256 / 256 / 256) = popc 8 (x / 256 / 256 / 256 % 256) + popc 32 (x / 256 / 256 / 256 / 256) := s 32 _
  have h5 : popc 32 (x / 256 / 256 / 256 / 256) = popc 8 (x / 256 / 256 / 256 / 256 % 256) + popc 24 (x / 256 / 256 / 256 / 256 / 256) := s 24 _
  have h6 : popc 24 (x / 256 / 256 / 256 / 256 / 256) = popc 8 (x / 256 / 256 / 256 / 256 / 256 % 256) + popc 16 (x / 256 / 256 / 256 / 256 / 256 / 256) := s 16 _
  have h7 : popc 16 (x / 256 / 256 / 256 / 256 / 256 / 256) = popc 8 (x / 256 / 256 / 256 / 256 / 256 / 256 % 256) + popc 8 (x / 256 / 256 / 256 / 256 / 256 / 256 / 256) := s 8 _
  have h8 := m (x / 256 / 256 / 256 / 256 / 256 / 256 / 256)
  rw [h1, h2, h3, h4, h5, h6, h7, h8]
  simp only [Nat.div_div_eq_div_mul, Nat.reduceMul]
  omega

/-- The three masks, and the sums by halves. -/
def ones64 (x : Nat) : Nat :=
  let a := (x / 2 &&& 6148914691236517205) + (x &&& 6148914691236517205)
  let b := (a / 4 &&& 3689348814741910323) + (a &&& 3689348814741910323)
  let c := (b / 16 + b) &&& 1085102592571150095
  let d := c + c / 256
  let e := d + d / 65536
  let f := e + e / 4294967296
  f % 128
theorem rep85 (x : Nat) : rep 85 (bytes8 x).length = 6148914691236517205 := by rw [show (bytes8 x).length = 8 from rfl]; decide
theorem rep51 (x : Nat) : rep 51 ((bytes8 x).map s1).length = 3689348814741910323 := by rw [List.length_map, show (bytes8 x).length = 8 from rfl]; decide
theorem rep15 (x : Nat) : rep 15 (((bytes8 x).map s1).map s2).length = 1085102592571150095 := by rw [List.length_map, List.length_map, show (bytes8 x).length = 8 from rfl]; decide
theorem ones64_mid {x : Nat} (h : x < 18446744073709551616) :
    let a := (x / 2 &&& 6148914691236517205) + (x &&& 6148914691236517205)
    let b := (a / 4 &&& 3689348814741910323) + (a &&& 3689348814741910323)
    ((b / 16 + b) &&& 1085102592571150095) = bval ((bytes8 x).map fun b => popc 8 b) ∧ a < 18446744073709551616 ∧ b ≤ 7378697629483820646 := by
  intro a b
  have hl := bytes8_lt x
  have ha : a = bval ((bytes8 x).map s1) := by
    have := step1 (bytes8 x) hl
    rw [bytes8_val h, rep85] at this
    exact this
  have hl1 : ∀ y ∈ (bytes8 x).map s1, y < 256 := by
    intro y hy
    obtain ⟨z, hz, rfl⟩ := List.mem_map.1 hy
    exact s1_lt ⟨z, hl z hz⟩
  have hb : b = bval (((bytes8 x).map s1).map s2) := by
    have := step2 ((bytes8 x).map s1) hl1
    rw [← ha, rep51] at this
    exact this
  have hl2 : ∀ y ∈ ((bytes8 x).map s1).map s2, y / 16 ≤ 4 ∧ y % 16 ≤ 4 := by
    intro y hy
    rw [List.map_map] at hy
    obtain ⟨z, hz, rfl⟩ := List.mem_map.1 hy
    exact small2 ⟨z, hl z hz⟩
  refine ⟨?_, ?_, ?_⟩
  · have := step3 (((bytes8 x).map s1).map s2) hl2
    rw [← hb, rep15] at this
    rw [this]
    have e : ∀ l : List Nat, (∀ z ∈ l, z < 256) → ((l.map s1).map s2).map s3 = l.map fun b => popc 8 b := by
      intro l hl
      induction l with
      | nil => rfl
      | cons a r ih =>
        simp only [List.map_cons]
        rw [ih fun z hz => hl z (by simp [hz]), byte8 ⟨a, hl a (by simp)⟩]
    rw [e _ hl]
  · have e1 : a ≤ 6148914691236517205 + 6148914691236517205 := Nat.add_le_add Nat.and_le_right Nat.and_le_right
    omega
  · have e1 : b ≤ 3689348814741910323 + 3689348814741910323 := Nat.add_le_add Nat.and_le_right Nat.and_le_right
    omega
theorem sum8 (p0 p1 p2 p3 p4 p5 p6 p7 : Nat) (h0 : p0 ≤ 8) (h1 : p1 ≤ 8) (h2 : p2 ≤ 8) (h3 : p3 ≤ 8) (h4 : p4 ≤ 8) (h5 : p5 ≤ 8) (h6 : p6 ≤ 8) (h7 : p7 ≤ 8) (c d e f : Nat)
    (hc : c = bval [p0, p1, p2, p3, p4, p5, p6, p7]) (hd : d = c + c / 256) (he : e = d + d / 65536) (hf : f = e + e / 4294967296) :
    f % 128 = p0 + p1 + p2 + p3 + p4 + p5 + p6 + p7 ∧ d < 18446744073709551616 ∧ e < 18446744073709551616 ∧ f < 9223372036854775808 := by
  simp only [bval] at hc
  have d' : d = (p0 + p1) + 256 * ((p1 + p2) + 256 * ((p2 + p3) + 256 * ((p3 + p4) + 256 * ((p4 + p5) + 256 * ((p5 + p6) + 256 * ((p6 + p7) + 256 * p7)))))) := by omega
  clear hd hc
  have e' : e = (p0 + p1 + p2 + p3) + 256 * ((p1 + p2 + p3 + p4) + 256 * ((p2 + p3 + p4 + p5) + 256 * ((p3 + p4 + p5 + p6) + 256 * ((p4 + p5 + p6 + p7) + 256 * ((p5 + p6 + p7) + 256 * ((p6 + p7) + 256 * p7)))))) := by omega
  have dl : d < 18446744073709551616 := by omega
  clear d' he
  have f' : f = (p0 + p1 + p2 + p3 + p4 + p5 + p6 + p7) + 256 * ((p1 + p2 + p3 + p4 + p5 + p6 + p7) + 256 * ((p2 + p3 + p4 + p5 + p6 + p7) + 256 * ((p3 + p4 + p5 + p6 + p7) + 256 * ((p4 + p5 + p6 + p7) + 256 * ((p5 + p6 + p7) + 256 * ((p6 + p7) + 256 * p7)))))) := by omega
  have el : e < 18446744073709551616 := by omega
  clear e' hf
  refine ⟨by omega, dl, el, by omega⟩

theorem ones64_eq {x : Nat} (h : x < 18446744073709551616) : ones64 x = popc 64 x := by
  have hm := (ones64_mid h).1
  unfold ones64
  simp only
  rw [hm, popc_bytes x]
  exact (sum8 _ _ _ _ _ _ _ _ (popc_le 8 _) (popc_le 8 _) (popc_le 8 _) (popc_le 8 _) (popc_le 8 _) (popc_le 8 _) (popc_le 8 _) (popc_le 8 _) _ _ _ _ rfl rfl rfl rfl).1

end Go.Proofs.YtfhnjecnamgpkaaDoor
