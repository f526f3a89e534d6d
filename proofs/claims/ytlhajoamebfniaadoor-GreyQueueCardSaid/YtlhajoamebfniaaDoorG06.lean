/-
  Merged texts: Law09a, Own, Law09g, Ref09o, PopP, BitsP, ArenaP, GreyP, Chg.
-/
import Derived.Test.YtlhajoamebfniaaDoorG04
import Derived.Test.YtlhajoamebfniaaDoorG05
import Derived.Test.YtlhajoamebfniaaDoorG03
import Derived.Test.YtlhajoamebfniaaDoorG01
import Derived.Laws.AppendOwn
import Derived.Laws.OwnMore
import Derived.OwnWalk
import Derived.ArgAppend
import Derived.Deep.RegionHeld
import Derived.RegionTactic
import Derived.Deep.RegionWith
set_option linter.unusedVariables false
set_option linter.unusedSimpArgs false
/-! commonagelaw09: awake, great. -/
namespace Go.Proofs.YtlhajoamebfniaaDoor
open Go.RowKit Go.Shelf

end Go.Proofs.YtlhajoamebfniaaDoor

/-! Rows of a call's own making that hold numbers or tenants: what is read of them, and what a store leaves. -/
namespace Go.Proofs.YtlhajoamebfniaaDoor
open Go.RowKit

/-! ### Tenants as cells -/
def tcs : List Ten → List Value
  | [] => []
  | t :: r => .int .i64 t.q :: .int .i64 t.tr :: .int .i64 t.cp :: .int .i64 t.sst :: tcs r

theorem tcs_len : ∀ ts : List Ten, (tcs ts).length = ts.length * 4
  | [] => rfl
  | t :: r => by unfold tcs; simp [tcs_len r]; omega
theorem tcs_one : ∀ ts : List Ten, ∀ u ∈ tcs ts, u.oneCell' = true
  | [], u, h => by simp [tcs] at h
  | t :: r, u, h => by
    unfold tcs at h
    simp only [List.mem_cons] at h
    rcases h with rfl | rfl | rfl | rfl | h
    · rfl
    · rfl
    · rfl
    · rfl
    · exact tcs_one r u h
theorem tcs_at : ∀ (ts : List Ten) (i : Nat), i < ts.length →
    (tcs ts)[i * 4]? = some (.int .i64 (tnth ts i).q) ∧ (tcs ts)[i * 4 + 1]? = some (.int .i64 (tnth ts i).tr) ∧ (tcs ts)[i * 4 + 2]? = some (.int .i64 (tnth ts i).cp) ∧ (tcs ts)[i * 4 + 3]? = some (.int .i64 (tnth ts i).sst)
  | [], i, h => absurd h (Nat.not_lt_zero _)
  | t :: r, 0, _ => ⟨rfl, rfl, rfl, rfl⟩
  | t :: r, i + 1, h => by
    have ih := tcs_at r i (by simpa using h)
    have e : (i + 1) * 4 = i * 4 + 4 := by omega
    rw [e]
    exact ih
theorem tcs_news {w : World} {b o : Nat} {ts : List Ten} (h : ∀ i, i < ts.length → w.cell? ⟨b, o + i * 4, none⟩ = some (.int .i64 (tnth ts i).q) ∧ w.cell? ⟨b, o + i * 4 + 1, none⟩ = some (.int .i64 (tnth ts i).tr) ∧
    w.cell? ⟨b, o + i * 4 + 2, none⟩ = some (.int .i64 (tnth ts i).cp) ∧ w.cell? ⟨b, o + i * 4 + 3, none⟩ = some (.int .i64 (tnth ts i).sst)) :
    ∀ j u, (tcs ts)[j]? = some u → w.cell? ((⟨b, o, none⟩ : Addr).add j) = some u := by
  intro j u hj
  have hl : j < (tcs ts).length := (List.getElem?_eq_some_iff.1 hj).1
  rw [tcs_len] at hl
  have hi : j / 4 < ts.length := by omega
  obtain ⟨a0, a1, a2, a3⟩ := tcs_at ts (j / 4) hi
  obtain ⟨c0, c1, c2, c3⟩ := h (j / 4) hi
  rw [Addr.add_lit]
  have hr : j % 4 = 0 ∨ j % 4 = 1 ∨ j % 4 = 2 ∨ j % 4 = 3 := by omega
  rcases hr with hr | hr | hr | hr
  · have e : j = j / 4 * 4 := by omega
    rw [← e] at a0 c0; rw [a0] at hj; cases hj; exact c0
  · have e : j = j / 4 * 4 + 1 := by omega
    rw [← e] at a1; rw [a1] at hj; cases hj
    rw [show o + j = o + j / 4 * 4 + 1 by omega]; exact c1
  · have e : j = j / 4 * 4 + 2 := by omega
    rw [← e] at a2; rw [a2] at hj; cases hj
    rw [show o + j = o + j / 4 * 4 + 2 by omega]; exact c2
  · have e : j = j / 4 * 4 + 3 := by omega
    rw [← e] at a3; rw [a3] at hj; cases hj
    rw [show o + j = o + j / 4 * 4 + 3 by omega]; exact c3

/-- A row of tenants of the call's own. -/
theorem own_tens {w : World} {base e : Nat} {v : Value} {n : Nat} {ts : List Ten} (h : w.ownsRow base e 4 v n (tcs ts)) (h0 : 0 < n) :
    ∃ g cap, v = .slice (some ⟨g, 0, none⟩) n cap ∧ base ≤ g ∧ g < w.heap.size ∧ n = ts.length ∧ n ≤ cap ∧ cap ≤ maxLen ∧ TenAt w (some ⟨g, 0, none⟩) ts ∧ ∀ o, w.frozen? ⟨g, o, none⟩ = false := by
  have hn : n = ts.length := by have := h.1; rw [tcs_len] at this; omega
  have h' := h
  obtain ⟨_, ⟨rfl, rfl⟩ | ⟨g, cap, cur, rfl, hb, hh, hc, hm, hs, ht⟩⟩ := h
  · exact absurd h0 (Nat.lt_irrefl 0)
  · refine ⟨g, cap, rfl, hb, (Array.getElem?_eq_some_iff.1 hh).1, hn, hc, hm, ?_, fun o => h'.frozenAt o⟩
    intro i hi
    obtain ⟨a0, a1, a2, a3⟩ := tcs_at ts i hi
    refine ⟨g, 0, rfl, ?_, ?_, ?_, ?_⟩
    · rw [Nat.zero_add, h'.cellAt _ (by omega)]; exact a0
    · rw [Nat.zero_add, h'.cellAt _ (by omega)]; exact a1
    · rw [Nat.zero_add, h'.cellAt _ (by omega)]; exact a2
    · rw [Nat.zero_add, h'.cellAt _ (by omega)]; exact a3

end Go.Proofs.YtlhajoamebfniaaDoor

/-! commonagelaw09: great. -/
namespace Go.Proofs.YtlhajoamebfniaaDoor
open Go.RowKit

/-- More than a statement looks at. -/
def bigC (c : Conf) : Bool := !(decide (c.cl.length ≤ 50 ∧ c.ts.length ≤ 50)) || decide (6000 < (ktotal c).1)

theorem slot_SlotsV {b gp : Nat} {c : Conf} {t : Nat} (n : Int) {w : World} (hn : sS c t c.cl.length = n) (h : PlanAt w b gp c t) : Calls Tryd.prog 77 #[.pointer (some ⟨b, 0, none⟩)] w fun e w' => e = .returned (.int .i64 n) ∧ w = w' := by
  subst hn; exact slot_Slots h
theorem slot_PagesV {b gp : Nat} {c : Conf} {t : Nat} (n : Int) {w : World} (hn : sG c t c.cl.length = n) (h : PlanAt w b gp c t) : Calls Tryd.prog 86 #[.pointer (some ⟨b, 0, none⟩)] w fun e w' => e = .returned (.int .i64 n) ∧ w = w' := by
  subst hn; exact slot_Pages h
theorem slot_PageV {b gp k : Nat} {c : Conf} {t : Nat} {s : Int} (a : Int) {w : World} (ha : pageOf c t s k = a) (h : PlanAt w b gp c t) (hk : AtClass c t s k) :
    Calls Tryd.prog 52 #[.pointer (some ⟨b, 0, none⟩), .int .i64 s] w fun e w' => e = .returned (.tuple #[.int .i64 a, .int .i64 0]) ∧ Ext w w' := by
  subst ha; exact slot_Page h hk
theorem slot_SizeV {b gp k : Nat} {c : Conf} {t : Nat} {s : Int} (a : Int) {w : World} (ha : nth c.cl k = a) (h : PlanAt w b gp c t) (hk : AtClass c t s k) :
    Calls Tryd.prog 93 #[.pointer (some ⟨b, 0, none⟩), .int .i64 s] w fun e w' => e = .returned (.tuple #[.int .i64 a, .int .i64 0]) ∧ Ext w w' := by
  subst ha; exact slot_Size h hk
theorem slot_NewN {ca ta : Option Addr} {cc tc n : Nat} {cl : List Int} {page wk gr gens : Int} (c : Conf) (i : Int) {w : World} (hk0 : kcheck c = 0) (h : CfgAt w ca ta cc tc c) (j : Nat) (hj : i = j) (hi : j < c.ts.length)
    (hn : c.ts.length = n) (h1 : c.cl = cl) (h2 : c.page = page) (h3 : c.wk = wk) (h4 : c.gr = gr) (h5 : c.gens = gens) :
    Calls Tryd.prog 47 #[.agg #[.slice ca cl.length cc, .int .i64 page, .slice ta n tc, .int .i64 wk, .int .i64 gr, .int .i64 gens], .int .i64 i] w (PlanNew c j w) := by
  subst hn h1 h2 h3 h4 h5 hj; exact slot_New c j hk0 hi h


end Go.Proofs.YtlhajoamebfniaaDoor

/-! commonageref09: Has, Of, At. -/
namespace Go.Proofs.YtlhajoamebfniaaDoor
open Go.RowKit

variable {lb lc fb fc mb mc cc t : Nat} {ca : Option Addr} {c : Conf} {w : World}
theorem KOk.nS_le (h : KOk c) (ht : t < c.ts.length) : nS c t ≤ 16384 := by
  have h1 := h.nS_eq ht
  have h2 := (h.sS_le ht (k := c.cl.length) (Nat.le_refl _)).2
  have h3 := h.cl.most
  omega

set_option maxHeartbeats 2000000 in
theorem ref09_Has {s : Int} (r : Bool) (hr : decide (0 ≤ s ∧ s < (nS c t : Int)) = r) :
    Calls Tryd.prog 13 #[dpv lb lc fb fc mb mc ca cc c t, .int .i64 s] w fun e w' => e = .returned (.bool r) ∧ Ext w w' := by
  unfold dpv
  have hx := (Ext.refl w).alloc (.cells #[.slice (some ⟨lb, 0, none⟩) (nS c t) lc, .slice (some ⟨fb, 0, none⟩) (nG c t) fc, .slice (some ⟨mb, 0, none⟩) (nG c t) mc, .int .i64 (wordsOf c t), .slice ca c.cl.length cc] 30)
  generalize nS c t = n at *
  by_cases h0 : 0 ≤ s
  · have t0 : decide (0 ≤ s) = true := by simpa using h0
    have t1 : decide (s < (n : Int)) = r := by rw [← hr]; simp [h0]
    clear hr h0
    go_enter Tryd.func13, Tryd.ntmps13
    go_wp2_with fail
    go_ret
    exact ⟨rfl, hx⟩
  · have t0 : decide (0 ≤ s) = false := by simpa using h0
    have t1 : false = r := by rw [← hr]; simp [h0]
    subst t1
    clear hr h0
    go_enter Tryd.func13, Tryd.ntmps13
    go_wp2_with fail
    go_ret
    exact ⟨rfl, hx⟩

/-- How many slots of class k are among the first i ones; the first one of them. -/
def cntK (c : Conf) (t k i : Nat) : Int := if (i : Int) ≤ sS c t k then 0 else if (i : Int) ≤ sS c t (k + 1) then i - sS c t k else slotsOf c t k
def fstK (c : Conf) (t k i : Nat) : Int := if (i : Int) ≤ sS c t k then 0 else sS c t k
theorem kOf_eq {k i : Nat} (ho : KOk c) (ht : t < c.ts.length) (hk : k < c.cl.length) (hi : i < nS c t) : kOf c t (i : Int) = k ↔ (sS c t k ≤ (i : Int) ∧ (i : Int) < sS c t (k + 1)) := by
  have hn := ho.nS_eq ht
  obtain ⟨j, hj⟩ := atClass_find (c := c) (t := t) (s := (i : Int)) (Int.natCast_nonneg _) (by omega)
  rw [hj.kOf ho ht]
  constructor
  · rintro rfl; exact ⟨hj.lo, hj.hi⟩
  · intro h; exact hj.uniq ho ht ⟨hk, h.1, h.2⟩

/-- The slot at an address. -/
def adrOf (c : Conf) (t : Nat) (s : Nat) : Int := addrOf c t (s : Int) (kOf c t (s : Int))
def AtR (c : Conf) (t : Nat) (a r q : Int) : Prop := (q = 0 ∧ ∃ s : Nat, r = s ∧ s < nS c t ∧ adrOf c t s = a) ∨ (q = 7 ∧ r = 0 ∧ ∀ s : Nat, s < nS c t → adrOf c t s ≠ a)
theorem slot_at (ho : KOk c) (ht : t < c.ts.length) {s : Nat} (h : s < nS c t) : AtClass c t (s : Int) (kOf c t (s : Int)) := by
  have hn := ho.nS_eq ht
  obtain ⟨j, hj⟩ := atClass_find (c := c) (t := t) (s := (s : Int)) (Int.natCast_nonneg _) (by omega)
  rw [hj.kOf ho ht]; exact hj
theorem adr_lt (ho : KOk c) (ht : t < c.ts.length) {s s' : Nat} (h : s < s') (h' : s' < nS c t) : adrOf c t s < adrOf c t s' := by
  have h1 := slot_at ho ht (s := s) (by omega)
  have h2 := slot_at ho ht h'
  have := slots_apart ho ht h1 h2 (by omega)
  have := (ho.bounds ht h1.lt).c2
  unfold adrOf; omega
theorem adr_inj (ho : KOk c) (ht : t < c.ts.length) {s s' : Nat} (h : s < nS c t) (h' : s' < nS c t) (e : adrOf c t s = adrOf c t s') : s = s' := by
  rcases Nat.lt_trichotomy s s' with g | g | g
  · have := adr_lt ho ht g h'; omega
  · exact g
  · have := adr_lt ho ht g h; omega

end Go.Proofs.YtlhajoamebfniaaDoor

/-! Plain Lean on the number of one bits: the sums by halves that math/bits.OnesCount64 forms. No program is named here. -/
namespace Go.Proofs.YtlhajoamebfniaaDoor

/-- How many of the lowest n bits are 1. -/
def popc : Nat → Nat → Nat
  | 0, _ => 0
  | n + 1, x => x % 2 + popc n (x / 2)

theorem popc_succ (n x : Nat) : popc (n + 1) x = x % 2 + popc n (x / 2) := rfl
theorem popc_le : ∀ n x, popc n x ≤ n
  | 0, _ => Nat.le_refl 0
  | n + 1, x => by have := popc_le n (x / 2); unfold popc; omega

theorem popc_split : ∀ (n m x : Nat), popc (n + m) x = popc n x + popc m (x / 2 ^ n)
  | 0, m, x => by simp [popc]
  | n + 1, m, x => by
    have e : n + 1 + m = (n + m) + 1 := by omega
    rw [e, popc_succ, popc_succ, popc_split n m (x / 2), Nat.div_div_eq_div_mul, show 2 * 2 ^ n = 2 ^ (n + 1) by rw [Nat.pow_succ]; omega]
    omega
theorem popc_mod : ∀ (n x y : Nat), popc n (x + 2 ^ n * y) = popc n x
  | 0, _, _ => rfl
  | n + 1, x, y => by
    rw [popc_succ, popc_succ]
    have e : x + 2 ^ (n + 1) * y = x + 2 * (2 ^ n * y) := by rw [Nat.pow_succ, Nat.mul_comm (2 ^ n) 2, Nat.mul_assoc]
    rw [e, show (x + 2 * (2 ^ n * y)) / 2 = x / 2 + 2 ^ n * y by omega, popc_mod n (x / 2) y]
    omega

/-- Bytes, the lowest first. -/
def bval : List Nat → Nat
  | [] => 0
  | b :: r => b + 256 * bval r
theorem bval_cons (b : Nat) (r : List Nat) : bval (b :: r) = b + 256 * bval r := rfl
def s1 (b : Nat) : Nat := (b / 2 &&& 85) + (b &&& 85)
def s2 (b : Nat) : Nat := (b / 4 &&& 51) + (b &&& 51)
def s3 (b : Nat) : Nat := (b / 16 + b) &&& 15
def rep (c : Nat) : Nat → Nat
  | 0 => 0
  | n + 1 => c + 256 * rep c n

theorem and_split (y b m c : Nat) (hb : b < 256) (hc : c < 256) : (b + 256 * y) &&& (c + 256 * m) = (b &&& c) + 256 * (y &&& m) := by
  have h : (b &&& c) < 2 ^ 8 := Nat.lt_of_le_of_lt Nat.and_le_left hb
  apply Nat.eq_of_testBit_eq
  intro i
  rw [Nat.testBit_and, Nat.add_comm b, Nat.add_comm c, Nat.add_comm (b &&& c), show 256 = 2 ^ 8 from rfl, Nat.testBit_two_pow_mul_add _ hb, Nat.testBit_two_pow_mul_add _ hc, Nat.testBit_two_pow_mul_add _ h]
  split
  · rw [Nat.testBit_and]
  · rw [Nat.testBit_and]

theorem half1 : ∀ (r : Fin 2) (b : Fin 256), (128 * r.val + b.val / 2) &&& 85 = b.val / 2 &&& 85 := by decide +kernel
theorem half2 : ∀ (r : Fin 4) (b : Fin 256), (64 * r.val + b.val / 4) &&& 51 = b.val / 4 &&& 51 := by decide +kernel
theorem half3 : ∀ (r : Fin 5) (a b : Fin 5), (16 * r.val + (16 * a.val + b.val) / 16 + (16 * a.val + b.val)) &&& 15 = s3 (16 * a.val + b.val) := by decide +kernel
theorem small2 : ∀ b : Fin 256, s2 (s1 b.val) / 16 ≤ 4 ∧ s2 (s1 b.val) % 16 ≤ 4 := by decide +kernel
theorem byte8 : ∀ b : Fin 256, s3 (s2 (s1 b.val)) = popc 8 b.val := by decide +kernel
theorem s1_lt : ∀ b : Fin 256, s1 b.val < 256 := by decide +kernel
theorem s2_lt : ∀ b : Fin 256, s2 b.val < 256 := by decide +kernel

theorem step1 (bs : List Nat) (h : ∀ b ∈ bs, b < 256) : (bval bs / 2 &&& rep 85 bs.length) + (bval bs &&& rep 85 bs.length) = bval (bs.map s1) := by
  induction bs with
  | nil => rfl
  | cons b r ih =>
    have hb : b < 256 := h b (by simp)
    have ih := ih fun x hx => h x (by simp [hx])
    have e : bval (b :: r) / 2 = (128 * (bval r % 2) + b / 2) + 256 * (bval r / 2) := by rw [bval_cons]; omega
    rw [e]
    show ((128 * (bval r % 2) + b / 2) + 256 * (bval r / 2) &&& (85 + 256 * rep 85 r.length)) + ((b + 256 * bval r) &&& (85 + 256 * rep 85 r.length)) = s1 b + 256 * bval (r.map s1)
    rw [and_split _ _ _ _ (by omega) (by omega), and_split _ _ _ _ hb (by omega), ← ih]
    have := half1 ⟨bval r % 2, by omega⟩ ⟨b, hb⟩
    simp only at this
    rw [this]
    unfold s1
    omega
theorem step2 (bs : List Nat) (h : ∀ b ∈ bs, b < 256) : (bval bs / 4 &&& rep 51 bs.length) + (bval bs &&& rep 51 bs.length) = bval (bs.map s2) := by
  induction bs with
  | nil => rfl
  | cons b r ih =>
    have hb : b < 256 := h b (by simp)
    have ih := ih fun x hx => h x (by simp [hx])
    have e : bval (b :: r) / 4 = (64 * (bval r % 4) + b / 4) + 256 * (bval r / 4) := by rw [bval_cons]; omega
    rw [e]
    show ((64 * (bval r % 4) + b / 4) + 256 * (bval r / 4) &&& (51 + 256 * rep 51 r.length)) + ((b + 256 * bval r) &&& (51 + 256 * rep 51 r.length)) = s2 b + 256 * bval (r.map s2)
    rw [and_split _ _ _ _ (by omega) (by omega), and_split _ _ _ _ hb (by omega), ← ih]
    have := half2 ⟨bval r % 4, by omega⟩ ⟨b, hb⟩
    simp only at this
    rw [this]
    unfold s2
    omega
theorem step3 (bs : List Nat) (h : ∀ b ∈ bs, b / 16 ≤ 4 ∧ b % 16 ≤ 4) : (bval bs / 16 + bval bs) &&& rep 15 bs.length = bval (bs.map s3) := by
  induction bs with
  | nil => rfl
  | cons b r ih =>
    have hb := h b (by simp)
    have hr : bval r % 16 ≤ 4 := by
      cases r with
      | nil => decide
      | cons c q => have := h c (by simp); rw [bval_cons]; omega
    have ih := ih fun x hx => h x (by simp [hx])
    have e : bval (b :: r) / 16 + bval (b :: r) = (16 * (bval r % 16) + b / 16 + b) + 256 * (bval r / 16 + bval r) := by rw [bval_cons]; omega
    rw [e]
    show ((16 * (bval r % 16) + b / 16 + b) + 256 * (bval r / 16 + bval r)) &&& (15 + 256 * rep 15 r.length) = s3 b + 256 * bval (r.map s3)
    rw [and_split _ _ _ _ (by omega) (by omega), ih]
    have := half3 ⟨bval r % 16, by omega⟩ ⟨b / 16, by omega⟩ ⟨b % 16, by omega⟩
    simp only at this
    rw [show 16 * (b / 16) + b % 16 = b by omega] at this
    rw [this]

def bytes8 (x : Nat) : List Nat := [x % 256, x / 256 % 256, x / 65536 % 256, x / 16777216 % 256, x / 4294967296 % 256, x / 1099511627776 % 256, x / 281474976710656 % 256, x / 72057594037927936 % 256]
theorem bytes8_val {x : Nat} (h : x < 18446744073709551616) : bval (bytes8 x) = x := by
  unfold bytes8
  simp only [bval]
  omega
theorem bytes8_lt (x : Nat) : ∀ b ∈ bytes8 x, b < 256 := by
  intro b hb
  unfold bytes8 at hb
  simp only [List.mem_cons, List.not_mem_nil, or_false] at hb
  omega
theorem popc_bytes (x : Nat) : popc 64 x = popc 8 (x % 256) + popc 8 (x / 256 % 256) + popc 8 (x / 65536 % 256) + popc 8 (x / 16777216 % 256) + popc 8 (x / 4294967296 % 256) + popc 8 (x / 1099511627776 % 256) + popc 8 (x / 281474976710656 % 256) + popc 8 (x / 72057594037927936 % 256) := by
  have m : ∀ y, popc 8 y = popc 8 (y % 256) := fun y => by
    have := popc_mod 8 (y % 256) (y / 256)
    rw [← this, show (2 : Nat) ^ 8 = 256 from rfl, Nat.mod_add_div]
  have s : ∀ k y, popc (8 + k) y = popc 8 (y % 256) + popc k (y / 256) := fun k y => by rw [popc_split 8 k y, ← m]
  have h1 : popc 64 x = popc 8 (x % 256) + popc 56 (x / 256) := s 56 x
  have h2 : popc 56 (x / 256) = popc 8 (x / 256 % 256) + popc 48 (x / 256 / 256) := s 48 _
  have h3 : popc 48 (x / 256 / 256) = popc 8 (x / 256 / 256 % 256) + popc 40 (x / 256 / 256 / 256) := s 40 _
  have h4 : popc 40 (x / 256 / 256 / 256) = popc 8 (x / 256 / 256 / 256 % 256) + popc 32 (x / 256 / 256 / 256 / 256) := s 32 _
  have h5 : popc 32 (x / 256 / 256 / 256 / 256) = popc 8 (x / 256 / 256 / 256 / 256 % 256) + popc 24 (x / 256 / 256 / 256 / 256 / 256) := s 24 _
  have h6 : popc 24 (x / 256 / 256 / 256 / 256 / 256) = popc 8 (x / 256 / 256 / 256 / 256 / 256 % 256) + popc 16 (x / 256 / 256 / 256 / 256 / 256 / 256) := s 16 _
  have h7 : popc 16 (x / 256 / 256 / 256 / 256 / 256 / 256) = popc 8 (x / 256 / 256 / 256 / 256 / 256 / 256 % 256) + popc 8 (x / 256 / 256 / 256 / 256 / 256 / 256 / 256) := s 8 _
  have h8 := m (x / 256 / 256 / 256 / 256 / 256 / 256 / 256)
  rw [h1, h2, h3, h4, h5, h6, h7, h8]
  simp only [Nat.div_div_eq_div_mul, Nat.reduceMul]
  omega

/-- The three masks, and the sums by halves. -/
def ones64 (x : Nat) : Nat :=
  let a := (x / 2 &&& 6148914691236517205) + (x &&& 6148914691236517205)
  let b := (a / 4 &&& 3689348814741910323) + (a &&& 3689348814741910323)
  let c := (b / 16 + b) &&& 1085102592571150095
  let d := c + c / 256
  let e := d + d / 65536
  let f := e + e / 4294967296
  f % 128
theorem rep85 (x : Nat) : rep 85 (bytes8 x).length = 6148914691236517205 := by rw [show (bytes8 x).length = 8 from rfl]; decide
theorem rep51 (x : Nat) : rep 51 ((bytes8 x).map s1).length = 3689348814741910323 := by rw [List.length_map, show (bytes8 x).length = 8 from rfl]; decide
theorem rep15 (x : Nat) : rep 15 (((bytes8 x).map s1).map s2).length = 1085102592571150095 := by rw [List.length_map, List.length_map, show (bytes8 x).length = 8 from rfl]; decide
theorem ones64_mid {x : Nat} (h : x < 18446744073709551616) :
    let a := (x / 2 &&& 6148914691236517205) + (x &&& 6148914691236517205)
    let b := (a / 4 &&& 3689348814741910323) + (a &&& 3689348814741910323)
    ((b / 16 + b) &&& 1085102592571150095) = bval ((bytes8 x).map fun b => popc 8 b) ∧ a < 18446744073709551616 ∧ b ≤ 7378697629483820646 := by
  intro a b
  have hl := bytes8_lt x
  have ha : a = bval ((bytes8 x).map s1) := by
    have := step1 (bytes8 x) hl
    rw [bytes8_val h, rep85] at this
    exact this
  have hl1 : ∀ y ∈ (bytes8 x).map s1, y < 256 := by
    intro y hy
    obtain ⟨z, hz, rfl⟩ := List.mem_map.1 hy
    exact s1_lt ⟨z, hl z hz⟩
  have hb : b = bval (((bytes8 x).map s1).map s2) := by
    have := step2 ((bytes8 x).map s1) hl1
    rw [← ha, rep51] at this
    exact this
  have hl2 : ∀ y ∈ ((bytes8 x).map s1).map s2, y / 16 ≤ 4 ∧ y % 16 ≤ 4 := by
    intro y hy
    rw [List.map_map] at hy
    obtain ⟨z, hz, rfl⟩ := List.mem_map.1 hy
    exact small2 ⟨z, hl z hz⟩
  refine ⟨?_, ?_, ?_⟩
  · have := step3 (((bytes8 x).map s1).map s2) hl2
    rw [← hb, rep15] at this
    rw [this]
    have e : ∀ l : List Nat, (∀ z ∈ l, z < 256) → ((l.map s1).map s2).map s3 = l.map fun b => popc 8 b := by
      intro l hl
      induction l with
      | nil => rfl
      | cons a r ih =>
        simp only [List.map_cons]
        rw [ih fun z hz => hl z (by simp [hz]), byte8 ⟨a, hl a (by simp)⟩]
    rw [e _ hl]
  · have e1 : a ≤ 6148914691236517205 + 6148914691236517205 := Nat.add_le_add Nat.and_le_right Nat.and_le_right
    omega
  · have e1 : b ≤ 3689348814741910323 + 3689348814741910323 := Nat.add_le_add Nat.and_le_right Nat.and_le_right
    omega
theorem sum8 (p0 p1 p2 p3 p4 p5 p6 p7 : Nat) (h0 : p0 ≤ 8) (h1 : p1 ≤ 8) (h2 : p2 ≤ 8) (h3 : p3 ≤ 8) (h4 : p4 ≤ 8) (h5 : p5 ≤ 8) (h6 : p6 ≤ 8) (h7 : p7 ≤ 8) (c d e f : Nat)
    (hc : c = bval [p0, p1, p2, p3, p4, p5, p6, p7]) (hd : d = c + c / 256) (he : e = d + d / 65536) (hf : f = e + e / 4294967296) :
    f % 128 = p0 + p1 + p2 + p3 + p4 + p5 + p6 + p7 ∧ d < 18446744073709551616 ∧ e < 18446744073709551616 ∧ f < 9223372036854775808 := by
  simp only [bval] at hc
  have d' : d = (p0 + p1) + 256 * ((p1 + p2) + 256 * ((p2 + p3) + 256 * ((p3 + p4) + 256 * ((p4 + p5) + 256 * ((p5 + p6) + 256 * ((p6 + p7) + 256 * p7)))))) := by omega
  clear hd hc
  have e' : e = (p0 + p1 + p2 + p3) + 256 * ((p1 + p2 + p3 + p4) + 256 * ((p2 + p3 + p4 + p5) + 256 * ((p3 + p4 + p5 + p6) + 256 * ((p4 + p5 + p6 + p7) + 256 * ((p5 + p6 + p7) + 256 * ((p6 + p7) + 256 * p7)))))) := by omega
  have dl : d < 18446744073709551616 := by omega
  clear d' he
  have f' : f = (p0 + p1 + p2 + p3 + p4 + p5 + p6 + p7) + 256 * ((p1 + p2 + p3 + p4 + p5 + p6 + p7) + 256 * ((p2 + p3 + p4 + p5 + p6 + p7) + 256 * ((p3 + p4 + p5 + p6 + p7) + 256 * ((p4 + p5 + p6 + p7) + 256 * ((p5 + p6 + p7) + 256 * ((p6 + p7) + 256 * p7)))))) := by omega
  have el : e < 18446744073709551616 := by omega
  clear e' hf
  refine ⟨by omega, dl, el, by omega⟩

theorem ones64_eq {x : Nat} (h : x < 18446744073709551616) : ones64 x = popc 64 x := by
  have hm := (ones64_mid h).1
  unfold ones64
  simp only
  rw [hm, popc_bytes x]
  exact (sum8 _ _ _ _ _ _ _ _ (popc_le 8 _) (popc_le 8 _) (popc_le 8 _) (popc_le 8 _) (popc_le 8 _) (popc_le 8 _) (popc_le 8 _) (popc_le 8 _) _ _ _ _ rfl rfl rfl rfl).1

end Go.Proofs.YtlhajoamebfniaaDoor

/-! Plain Lean on rows of bits, as lists of truths and as words of 64 bits. No program is named here. -/
namespace Go.Proofs.YtlhajoamebfniaaDoor

def bnth (bs : List Bool) (i : Nat) : Bool := bs.getD i false
theorem bnth_out {bs : List Bool} {i : Nat} (h : bs.length ≤ i) : bnth bs i = false := by unfold bnth; simp [h]
theorem bnth_at {bs : List Bool} {i : Nat} (h : i < bs.length) : bs[i]? = some (bnth bs i) := by unfold bnth; simp [List.getD, h]
theorem bnth_set {bs : List Bool} {i j : Nat} {b : Bool} (h : i < bs.length) : bnth (bs.set i b) j = if j = i then b else bnth bs j := by
  unfold bnth
  by_cases e : j = i
  · subst e; simp [h]
  · rw [if_neg e]
    simp [List.getD, List.getElem?_set, Ne.symm e]
theorem bext {az bs : List Bool} (hl : az.length = bs.length) (h : ∀ i, i < az.length → bnth az i = bnth bs i) : az = bs := by
  apply List.ext_getElem hl
  intro i h1 h2
  have := h i h1
  unfold bnth at this
  simpa [List.getD, h1, h2] using this
theorem bnth_rep {n i : Nat} {b : Bool} (h : i < n) : bnth (List.replicate n b) i = b := by unfold bnth; simp [List.getD, h]
theorem bnth_rep0 (n i : Nat) : bnth (List.replicate n false) i = false := by
  by_cases h : i < n
  · exact bnth_rep h
  · exact bnth_out (by simp; omega)

/-! ### Sums of powers -/
def wsum (f : Nat → Bool) : Nat → Nat
  | 0 => 0
  | j + 1 => 2 ^ j * (f j).toNat + wsum f j
theorem wsum_succ (f : Nat → Bool) (j : Nat) : wsum f (j + 1) = 2 ^ j * (f j).toNat + wsum f j := rfl
theorem wsum_lt (f : Nat → Bool) : ∀ n, wsum f n < 2 ^ n
  | 0 => Nat.zero_lt_one
  | n + 1 => by
    have := wsum_lt f n
    rw [wsum_succ, Nat.pow_succ]
    cases f n <;> simp <;> omega
theorem wsum_bit (f : Nat → Bool) : ∀ n j, (wsum f n).testBit j = (decide (j < n) && f j)
  | 0, j => by simp [wsum]
  | n + 1, j => by
    rw [wsum_succ, Nat.testBit_two_pow_mul_add _ (wsum_lt f n)]
    by_cases hj : j < n
    · rw [if_pos hj, wsum_bit f n j]
      simp [hj, Nat.lt_succ_of_lt hj]
    · rw [if_neg hj]
      by_cases e : j = n
      · subst e
        cases f j <;> simp
      · have h1 : ¬ j < n + 1 := by omega
        obtain ⟨m, hm⟩ : ∃ m, j - n = m + 1 := ⟨j - n - 1, by omega⟩
        rw [hm]
        cases f n <;> simp [h1, Nat.testBit_succ]
theorem wsum_eq {f : Nat → Bool} {n x : Nat} (hx : x < 2 ^ n) (h : ∀ j, j < n → x.testBit j = f j) : x = wsum f n := by
  apply Nat.eq_of_testBit_eq
  intro j
  rw [wsum_bit]
  by_cases hj : j < n
  · simp [hj, h j hj]
  · rw [Nat.testBit_lt_two_pow (Nat.lt_of_lt_of_le hx (Nat.pow_le_pow_right (by decide) (by omega)))]
    simp [hj]

/-! ### Words of a row -/
def wlen (n : Nat) : Nat := (n + 63) / 64
def wd (bs : List Bool) (k : Nat) : Nat := wsum (fun j => bnth bs (64 * k + j)) 64
def wds (bs : List Bool) : List Int := (List.range (wlen bs.length)).map fun k => ((wd bs k : Nat) : Int)
theorem wds_len (bs : List Bool) : (wds bs).length = wlen bs.length := by unfold wds; simp
theorem wds_get {bs : List Bool} {k : Nat} (h : k < (wds bs).length) : (wds bs)[k] = ((wd bs k : Nat) : Int) := by simp [wds]
theorem wds_nth {bs : List Bool} {k : Nat} (h : k < wlen bs.length) : nth (wds bs) k = (wd bs k : Nat) := by
  unfold nth wds; simp [List.getD, h]
theorem wd_lt (bs : List Bool) (k : Nat) : wd bs k < 18446744073709551616 := wsum_lt _ 64
theorem wd_bit (bs : List Bool) (k j : Nat) (h : j < 64) : (wd bs k).testBit j = bnth bs (64 * k + j) := by
  unfold wd; rw [wsum_bit]; simp [h]
theorem wd_eq {bs : List Bool} {k x : Nat} (hx : x < 18446744073709551616) (h : ∀ j, j < 64 → x.testBit j = bnth bs (64 * k + j)) : x = wd bs k :=
  wsum_eq hx h
theorem wd_high {x j : Nat} (hx : x < 18446744073709551616) (h : 64 ≤ j) : x.testBit j = false :=
  Nat.testBit_lt_two_pow (Nat.lt_of_lt_of_le hx (show 2 ^ 64 ≤ 2 ^ j from Nat.pow_le_pow_right (by decide) h))
theorem wds_64 (bs : List Bool) : ∀ n ∈ wds bs, 0 ≤ n ∧ n < 18446744073709551616 := by
  intro n hn
  unfold wds at hn
  simp only [List.mem_map] at hn
  obtain ⟨k, _, rfl⟩ := hn
  have := wd_lt bs k
  omega
theorem wd_zero {bs : List Bool} {k : Nat} (h : ∀ j, j < 64 → bnth bs (64 * k + j) = false) : wd bs k = 0 :=
  (wd_eq (by decide) fun j hj => by rw [h j hj, Nat.zero_testBit]).symm

theorem wds_set {bs : List Bool} {i : Nat} {b : Bool} (h : i < bs.length) : wds (bs.set i b) = (wds bs).set (i / 64) ((wd (bs.set i b) (i / 64) : Nat) : Int) := by
  apply List.ext_getElem
  · simp [wds_len]
  · intro k h1 h2
    rw [List.getElem_set]
    by_cases e : i / 64 = k
    · subst e
      rw [if_pos rfl, wds_get]
    · rw [if_neg e, wds_get, wds_get]
      have hw : wd (bs.set i b) k = wd bs k := wd_eq (wd_lt _ _) fun j hj => by rw [wd_bit _ _ _ hj, bnth_set h, if_neg (by omega)]
      rw [hw]
theorem wd_set_true {bs : List Bool} {i : Nat} (h : i < bs.length) : wd (bs.set i true) (i / 64) = wd bs (i / 64) ||| 2 ^ (i % 64) := by
  symm
  refine wd_eq ?_ fun j hj => ?_
  · exact Nat.or_lt_two_pow (n := 64) (wd_lt _ _) (Nat.pow_lt_pow_right (by decide) (by omega))
  · rw [Nat.testBit_or, wd_bit _ _ _ hj, bnth_set h, Nat.testBit_two_pow]
    by_cases e : j = i % 64
    · rw [if_pos (by omega)]; simp [e]
    · rw [if_neg (by omega)]
      have : ¬ i % 64 = j := fun a => e a.symm
      simp [this]
theorem wd_set_false {bs : List Bool} {i : Nat} (h : i < bs.length) : wd (bs.set i false) (i / 64) = wd bs (i / 64) &&& (18446744073709551616 - (2 ^ (i % 64) + 1)) := by
  symm
  have hp : 2 ^ (i % 64) < 2 ^ 64 := Nat.pow_lt_pow_right (by decide) (by omega)
  refine wd_eq (Nat.lt_of_le_of_lt Nat.and_le_left (wd_lt _ _)) fun j hj => ?_
  rw [Nat.testBit_and, wd_bit _ _ _ hj, bnth_set h, show 18446744073709551616 - (2 ^ (i % 64) + 1) = 2 ^ 64 - (2 ^ (i % 64) + 1) from rfl, Nat.testBit_two_pow_sub_succ hp, Nat.testBit_two_pow]
  by_cases e : j = i % 64
  · rw [if_pos (by omega)]; simp [e]
  · rw [if_neg (by omega)]
    have : ¬ i % 64 = j := fun a => e a.symm
    simp [this, hj]

/-! ### One row less another -/
def bless (az bs : List Bool) : List Bool := (List.range az.length).map fun i => bnth az i && !bnth bs i
theorem bless_len (az bs : List Bool) : (bless az bs).length = az.length := by unfold bless; simp
theorem bless_nth (az bs : List Bool) (i : Nat) : bnth (bless az bs) i = (bnth az i && !bnth bs i) := by
  by_cases h : i < az.length
  · unfold bless bnth; simp [List.getD, h]
  · rw [bnth_out (by rw [bless_len]; omega), bnth_out (bs := az) (by omega)]; rfl
theorem wd_bless (az bs : List Bool) (k : Nat) : wd (bless az bs) k = wd az k &&& (18446744073709551616 - (wd bs k + 1)) := by
  symm
  refine wd_eq (Nat.lt_of_le_of_lt Nat.and_le_left (wd_lt _ _)) fun j hj => ?_
  rw [Nat.testBit_and, wd_bit _ _ _ hj, bless_nth, show 18446744073709551616 - (wd bs k + 1) = 2 ^ 64 - (wd bs k + 1) from rfl, Nat.testBit_two_pow_sub_succ (wd_lt bs k), wd_bit _ _ _ hj]
  simp [hj]

/-! ### How many -/
def bcnt (bs : List Bool) : Nat → Nat
  | 0 => 0
  | m + 1 => bcnt bs m + (bnth bs m).toNat
theorem bcnt_succ (bs : List Bool) (m : Nat) : bcnt bs (m + 1) = bcnt bs m + (bnth bs m).toNat := rfl
theorem bcnt_le (bs : List Bool) : ∀ m, bcnt bs m ≤ m
  | 0 => Nat.le_refl 0
  | m + 1 => by have := bcnt_le bs m; rw [bcnt_succ]; cases bnth bs m <;> simp <;> omega
theorem bcnt_out (bs : List Bool) : ∀ m, bs.length ≤ m → bcnt bs m = bcnt bs bs.length := by
  intro m h
  induction m with
  | zero => rw [Nat.le_zero.1 h]
  | succ m ih =>
    by_cases e : bs.length = m + 1
    · rw [e]
    · rw [bcnt_succ, ih (by omega), bnth_out (by omega)]
      rfl
theorem popc_wsum (f : Nat → Bool) : ∀ n, popc n (wsum f n) = (List.range n).foldl (fun a j => a + (f j).toNat) 0
  | 0 => rfl
  | n + 1 => by
    rw [popc_split n 1, List.range_succ, List.foldl_append, ← popc_wsum f n, wsum_succ, Nat.add_comm (2 ^ n * _), popc_mod]
    have e : (wsum f n + 2 ^ n * (f n).toNat) / 2 ^ n = (f n).toNat := by
      rw [Nat.add_mul_div_left _ _ (Nat.two_pow_pos n), Nat.div_eq_of_lt (wsum_lt f n), Nat.zero_add]
    rw [e]
    cases hf : f n <;> simp [popc, hf]
theorem bcnt_fold (bs : List Bool) (a : Nat) : ∀ n, bcnt bs (a + n) = bcnt bs a + (List.range n).foldl (fun s j => s + (bnth bs (a + j)).toNat) 0
  | 0 => rfl
  | n + 1 => by
    rw [List.range_succ, List.foldl_append, ← Nat.add_assoc, bcnt_succ, bcnt_fold bs a n, Nat.add_assoc]
    rfl
theorem bcnt_word (bs : List Bool) (k : Nat) : bcnt bs (64 * k) + popc 64 (wd bs k) = bcnt bs (64 * (k + 1)) := by
  unfold wd
  rw [popc_wsum, show 64 * (k + 1) = 64 * k + 64 by omega, bcnt_fold bs (64 * k) 64]
theorem bcnt_all (bs : List Bool) : bcnt bs (64 * wlen bs.length) = bcnt bs bs.length := bcnt_out bs _ (by unfold wlen; omega)

/-! ### The next one -/
def IsNext (bs : List Bool) (fm : Int) (is : Bool) (p : Int) (q : Bool) : Prop :=
  (q = true ∧ ∃ i : Nat, p = i ∧ fm ≤ i ∧ i < bs.length ∧ bnth bs i = is ∧ ∀ j : Nat, fm ≤ j → j < i → bnth bs j = !is) ∨
  (q = false ∧ p = 0 ∧ ∀ j : Nat, fm ≤ j → j < bs.length → bnth bs j = !is)
theorem first_from (P : Nat → Bool) (a n : Nat) : (∀ i, a ≤ i → i < n → P i = false) ∨ ∃ k, a ≤ k ∧ k < n ∧ (∀ i, a ≤ i → i < k → P i = false) ∧ P k = true := by
  induction n with
  | zero => exact .inl fun i _ h => absurd h (Nat.not_lt_zero i)
  | succ n ih =>
    rcases ih with h | ⟨k, h1, h2, h3, h4⟩
    · by_cases ha : a ≤ n
      · cases hp : P n
        · left
          intro i hi hn
          rcases Nat.lt_or_ge i n with c | c
          · exact h i hi c
          · obtain rfl : i = n := by omega
            exact hp
        · exact .inr ⟨n, ha, Nat.lt_succ_self n, h, hp⟩
      · exact .inl fun i hi hn => absurd hi (by omega)
    · exact .inr ⟨k, h1, by omega, h3, h4⟩
theorem next_exists (bs : List Bool) (fm : Int) (is : Bool) : ∃ p q, IsNext bs fm is p q := by
  rcases first_from (fun i => bnth bs i == is) fm.toNat bs.length with h | ⟨k, h1, h2, h3, h4⟩
  · refine ⟨0, false, .inr ⟨rfl, rfl, fun j hj hl => ?_⟩⟩
    have := h j (by omega) hl
    revert this; cases bnth bs j <;> cases is <;> simp
  · refine ⟨k, true, .inl ⟨rfl, k, rfl, by omega, h2, by simpa using h4, fun j hj hl => ?_⟩⟩
    have := h3 j (by omega) hl
    revert this; cases bnth bs j <;> cases is <;> simp
theorem IsNext.same {bs : List Bool} {fm : Int} {is : Bool} {p p' : Int} {q q' : Bool} (h : IsNext bs fm is p q) (h' : IsNext bs fm is p' q') : p = p' ∧ q = q' := by
  rcases h with ⟨rfl, i, rfl, h1, h2, h3, h4⟩ | ⟨rfl, rfl, h4⟩
  · rcases h' with ⟨rfl, j, rfl, g1, g2, g3, g4⟩ | ⟨rfl, rfl, g4⟩
    · rcases Nat.lt_trichotomy i j with c | c | c
      · have := g4 i h1 c; rw [h3] at this; cases is <;> cases this
      · exact ⟨by rw [c], rfl⟩
      · have := h4 j g1 c; rw [g3] at this; cases is <;> cases this
    · have := g4 i h1 h2; rw [h3] at this; cases is <;> cases this
  · rcases h' with ⟨rfl, j, rfl, g1, g2, g3, g4⟩ | ⟨rfl, rfl, g4⟩
    · have := h4 j g1 g2; rw [g3] at this; cases is <;> cases this
    · exact ⟨rfl, rfl⟩

end Go.Proofs.YtlhajoamebfniaaDoor

/-! Arenas in plain Lean: which slots are taken, how many words they are; what Take, Give, GiveAll leave. No program is named here. -/
namespace Go.Proofs.YtlhajoamebfniaaDoor
open Go.RowKit

/-- A slot's size. -/
def szOf (c : Conf) (t s : Nat) : Int := nth c.cl (kOf c t (s : Int))
/-- How many words are used, of the first n slots. -/
def usedTo (c : Conf) (t : Nat) (bs : List Bool) : Nat → Int
  | 0 => 0
  | n + 1 => usedTo c t bs n + if bnth bs n then szOf c t n else 0
def usedOf (c : Conf) (t : Nat) (bs : List Bool) : Int := usedTo c t bs (nS c t)
variable {c : Conf} {t : Nat} {bs bs' : List Bool}
theorem usedTo_succ (n : Nat) : usedTo c t bs (n + 1) = usedTo c t bs n + if bnth bs n then szOf c t n else 0 := rfl
theorem szOf_bd (ho : KOk c) (ht : t < c.ts.length) {s : Nat} (h : s < nS c t) : 2 ≤ szOf c t s ∧ szOf c t s ≤ 64 := by
  have hk := slot_at ho ht h
  have bd := ho.bounds ht hk.lt
  exact ⟨bd.c2, bd.c64⟩
theorem usedTo_bd (ho : KOk c) (ht : t < c.ts.length) (bs : List Bool) : ∀ n, n ≤ nS c t → 0 ≤ usedTo c t bs n ∧ usedTo c t bs n ≤ n * 64
  | 0, _ => ⟨Int.le_refl _, by simp [usedTo]⟩
  | n + 1, h => by
    have ih := usedTo_bd ho ht bs n (by omega)
    have sz := szOf_bd ho ht (s := n) (by omega)
    rw [usedTo_succ]
    split <;> omega
theorem usedOf_bd (ho : KOk c) (ht : t < c.ts.length) (bs : List Bool) : 0 ≤ usedOf c t bs ∧ usedOf c t bs ≤ 1048576 := by
  have h1 := usedTo_bd ho ht bs (nS c t) (Nat.le_refl _)
  have h2 := ho.nS_le ht
  unfold usedOf; omega
theorem usedTo_none (n : Nat) : usedTo c t (List.replicate n false) n = 0 := by
  have : ∀ m, usedTo c t (List.replicate n false) m = 0 := by
    intro m
    induction m with
    | zero => rfl
    | succ m ih => rw [usedTo_succ, ih, bnth_rep0]; rfl
  exact this n
theorem usedTo_set {s : Nat} (hs : s < bs.length) (v : Bool) : ∀ n, usedTo c t (bs.set s v) n = usedTo c t bs n + if s < n then (if v then szOf c t s else 0) - (if bnth bs s then szOf c t s else 0) else 0
  | 0 => by simp [usedTo]
  | n + 1 => by
    have ih := usedTo_set hs v n
    rw [usedTo_succ, usedTo_succ, ih, bnth_set hs]
    rcases Nat.lt_trichotomy s n with g | g | g
    · rw [if_neg (by omega : ¬ n = s), if_pos g, if_pos (by omega : s < n + 1)]; omega
    · subst g
      rw [if_pos rfl, if_neg (by omega : ¬ s < s), if_pos (by omega : s < s + 1)]; omega
    · rw [if_neg (by omega : ¬ n = s), if_neg (by omega : ¬ s < n), if_neg (by omega : ¬ s < n + 1)]; omega
theorem used_take {s : Nat} (hl : bs.length = nS c t) (hs : s < bs.length) (h : bnth bs s = false) : usedOf c t (bs.set s true) = usedOf c t bs + szOf c t s := by
  unfold usedOf
  rw [usedTo_set hs, if_pos (by omega), h]; simp
theorem used_give {s : Nat} (hl : bs.length = nS c t) (hs : s < bs.length) (h : bnth bs s = true) : usedOf c t (bs.set s false) = usedOf c t bs - szOf c t s := by
  unfold usedOf
  rw [usedTo_set hs, if_pos (by omega), h]; simp; omega

/-- Slot s is of class k. -/
def ofClass (c : Conf) (t k s : Nat) : Prop := sS c t k ≤ (s : Int) ∧ (s : Int) < sS c t (k + 1)
/-- What Take leaves, tells. -/
def TakeR (c : Conf) (t : Nat) (bs : List Bool) (k : Int) (bs' : List Bool) (p e : Int) : Prop :=
  (¬ (0 ≤ k ∧ k < c.cl.length) ∧ bs' = bs ∧ p = 0 ∧ e = 2) ∨
  ∃ j : Nat, k = j ∧ j < c.cl.length ∧
    ((∃ s : Nat, ofClass c t j s ∧ bnth bs s = false ∧ (∀ i : Nat, ofClass c t j i → i < s → bnth bs i = true) ∧ bs' = bs.set s true ∧ p = s ∧ e = 0) ∨
     ((∀ i : Nat, ofClass c t j i → bnth bs i = true) ∧ bs' = bs ∧ p = 0 ∧ e = 6))
theorem TakeR.len {k p e : Int} (h : TakeR c t bs k bs' p e) : bs'.length = bs.length := by
  rcases h with ⟨_, rfl, _⟩ | ⟨j, _, _, ⟨s, _, _, _, rfl, _⟩ | ⟨_, rfl, _⟩⟩
  · rfl
  · rw [List.length_set]
  · rfl
theorem ofClass_lt (ho : KOk c) (ht : t < c.ts.length) {k s : Nat} (hk : k < c.cl.length) (h : ofClass c t k s) : s < nS c t := by
  have := sS_mono ho ht (a := k + 1) (b := c.cl.length) hk (Nat.le_refl _)
  have := ho.nS_eq ht
  have := h.2
  omega
theorem least {P : Nat → Prop} [DecidablePred P] : ∀ n : Nat, (∃ s, s < n ∧ P s ∧ ∀ i, i < s → ¬ P i) ∨ ∀ i, i < n → ¬ P i
  | 0 => .inr fun _ h => absurd h (Nat.not_lt_zero _)
  | n + 1 => by
    rcases least (P := P) n with ⟨s, h1, h2, h3⟩ | h
    · exact .inl ⟨s, by omega, h2, h3⟩
    · by_cases hp : P n
      · exact .inl ⟨n, by omega, hp, h⟩
      · refine .inr fun i hi => ?_
        rcases Nat.lt_or_ge i n with g | g
        · exact h i g
        · obtain rfl : i = n := by omega
          exact hp
theorem take_exists (ho : KOk c) (ht : t < c.ts.length) (bs : List Bool) (k : Int) : ∃ bs' p e, TakeR c t bs k bs' p e := by
  by_cases hk : 0 ≤ k ∧ k < c.cl.length
  · obtain ⟨j, rfl⟩ : ∃ j : Nat, k = j := ⟨k.toNat, by omega⟩
    have hj : j < c.cl.length := by omega
    rcases least (P := fun s => (sS c t j ≤ (s : Int) ∧ (s : Int) < sS c t (j + 1)) ∧ bnth bs s = false) (nS c t) with ⟨s, h1, h2, h3⟩ | h
    · exact ⟨_, _, _, .inr ⟨j, rfl, hj, .inl ⟨s, h2.1, h2.2, fun i hi hlt => by
        have := h3 i hlt
        cases e : bnth bs i
        · exact absurd ⟨hi, e⟩ this
        · rfl, rfl, rfl, rfl⟩⟩⟩
    · exact ⟨_, _, _, .inr ⟨j, rfl, hj, .inr ⟨fun i hi => by
        have := h i (ofClass_lt ho ht hj hi)
        cases e : bnth bs i
        · exact absurd ⟨hi, e⟩ this
        · rfl, rfl, rfl, rfl⟩⟩⟩
  · exact ⟨_, _, _, .inl ⟨hk, rfl, rfl, rfl⟩⟩
/-- What Give leaves, tells. -/
def giveR (bs : List Bool) (s : Int) : List Bool × Int := if ¬ (0 ≤ s ∧ s < bs.length) then (bs, 2) else if bnth bs s.toNat then (bs.set s.toNat false, 0) else (bs, 9)
theorem giveR_len (bs : List Bool) (s : Int) : (giveR bs s).1.length = bs.length := by
  unfold giveR; split; rfl; split; exact List.length_set .. ; rfl
/-- What GiveAll leaves, tells; of a row of as many bits. -/
def giveAllR (bs r : List Bool) : List Bool × Int := if ∀ i, i < bs.length → bnth r i = true → bnth bs i = true then (bless bs r, 0) else (bs, 9)

end Go.Proofs.YtlhajoamebfniaaDoor

/-! Grey in plain Lean: the queue, what is owed, which pages are dirty, the walk; what Put, Next, Walk leave and tell. No program is named here. -/
namespace Go.Proofs.YtlhajoamebfniaaDoor
open Go.RowKit

/-- A slot's page; a page's first slot, how many it has. -/
def pgN (c : Conf) (t s : Nat) : Nat := (pageOf c t (s : Int) (kOf c t (s : Int))).toNat
def fsN (c : Conf) (t p : Nat) : Nat := (firstP c t (p : Int) (kpOf c t (p : Int))).toNat
def mnN (c : Conf) (t p : Nat) : Nat := (manyP c t (p : Int) (kpOf c t (p : Int))).toNat
variable {c : Conf} {t : Nat}
theorem page_at (ho : KOk c) (ht : t < c.ts.length) {p : Nat} (h : p < nG c t) : AtPage c t (p : Int) (kpOf c t (p : Int)) := by
  have hn := ho.nG_eq ht
  obtain ⟨j, hj⟩ := atPage_find (c := c) (t := t) (s := (p : Int)) (Int.natCast_nonneg _) (by omega)
  rw [hj.kpOf ho ht]; exact hj
structure PgFacts (c : Conf) (t p k : Nat) : Prop where
  at_ : AtPage c t (p : Int) k
  fs : firstP c t (p : Int) k = (fsN c t p : Int)
  mn : manyP c t (p : Int) k = (mnN c t p : Int)
  pos : 1 ≤ mnN c t p
  le : fsN c t p + mnN c t p ≤ nS c t
theorem pgFacts (ho : KOk c) (ht : t < c.ts.length) {p : Nat} (h : p < nG c t) : PgFacts c t p (kpOf c t (p : Int)) := by
  have hk := page_at ho ht h
  have hn := ho.nS_eq ht
  obtain ⟨h1, h2, h3⟩ := page_slots ho ht hk
  have s0 := ho.sS_le ht (k := kpOf c t (p : Int)) (by have := hk.lt; omega)
  have s1 := sS_mono ho ht (a := kpOf c t (p : Int) + 1) (b := c.cl.length) (by have := hk.lt; omega) (Nat.le_refl _)
  have l2 := h2.lo
  have l3 := h3.hi
  have e1 : (fsN c t p : Int) = firstP c t (p : Int) (kpOf c t (p : Int)) := by unfold fsN; omega
  have e2 : (mnN c t p : Int) = manyP c t (p : Int) (kpOf c t (p : Int)) := by unfold mnN; omega
  exact ⟨hk, e1.symm, e2.symm, by omega, by omega⟩
structure SlFacts (c : Conf) (t s k : Nat) : Prop where
  at_ : AtClass c t (s : Int) k
  pg : pageOf c t (s : Int) k = (pgN c t s : Int)
  lt : pgN c t s < nG c t
  lo : fsN c t (pgN c t s) ≤ s
  hi : s < fsN c t (pgN c t s) + mnN c t (pgN c t s)
theorem slFacts (ho : KOk c) (ht : t < c.ts.length) {s : Nat} (h : s < nS c t) : SlFacts c t s (kOf c t (s : Int)) := by
  have hk := slot_at ho ht h
  have hn := ho.nG_eq ht
  obtain ⟨d, m, ip⟩ := hk.inPage ho ht
  have hp := ip.page hk.lt
  have g0 := (ho.sG_le ht (k := kOf c t (s : Int)) (by have := hk.lt; omega)).1
  have g1 := sG_mono ho ht (a := kOf c t (s : Int) + 1) (b := c.cl.length) (by have := hk.lt; omega) (Nat.le_refl _)
  have e1 : pageOf c t (s : Int) (kOf c t (s : Int)) = sG c t (kOf c t (s : Int)) + d := ip.pg
  have d0 := ip.d0; have m0 := ip.m0
  have lo := hp.lo; have hi := hp.hi
  have e2 : (pgN c t s : Int) = pageOf c t (s : Int) (kOf c t (s : Int)) := by unfold pgN; omega
  have hl : pgN c t s < nG c t := by omega
  have pf := pgFacts ho ht hl
  have ek : kpOf c t (pgN c t s : Int) = kOf c t (s : Int) := by
    rw [e2, e1]; exact hp.kpOf ho ht
  obtain ⟨f1, f2⟩ := ip.first
  have a1 := pf.fs; have a2 := pf.mn
  rw [ek, e2, e1] at a1 a2
  exact ⟨hk, e2.symm, hl, by omega, by omega⟩

/-- A grey: its queue, the slots that are owed, the pages that are dirty, the walk's next slot and its end. -/
structure GS where
  q : List Int
  ow : List Bool
  di : List Bool
  at_ : Nat
  en : Nat
structure GOk (c : Conf) (t n : Nat) (g : GS) : Prop where
  ql : g.q.length ≤ n
  qs : ∀ x ∈ g.q, 0 ≤ x ∧ x < (nS c t : Int)
  ol : g.ow.length = nS c t
  dl : g.di.length = nG c t
  wk : g.at_ = g.en ∨ ∃ p, p < nG c t ∧ fsN c t p ≤ g.at_ ∧ g.at_ < g.en ∧ g.en = fsN c t p + mnN c t p
  le : g.at_ ≤ nS c t ∧ g.en ≤ nS c t

/-- The least that is so. -/
def fstD (bs : List Bool) : Option Nat := (List.range bs.length).find? (bnth bs)
theorem fstD_some {bs : List Bool} {p : Nat} (h : fstD bs = some p) : p < bs.length ∧ bnth bs p = true ∧ ∀ j, j < p → bnth bs j = false := by
  unfold fstD at h
  rw [List.find?_range_eq_some] at h
  obtain ⟨h1, h2, h3⟩ := h
  exact ⟨by simpa using h2, h1, fun j hj => by have := h3 j hj; simpa using this⟩
theorem fstD_none {bs : List Bool} (h : fstD bs = none) : ∀ j, j < bs.length → bnth bs j = false := by
  intro j hj
  unfold fstD at h
  rw [List.find?_eq_none] at h
  have := h j (by simpa using hj)
  simpa using this
theorem fstD_next (bs : List Bool) : IsNext bs 0 true (match fstD bs with | some p => (p : Int) | none => 0) (fstD bs).isSome := by
  cases h : fstD bs with
  | none => exact .inr ⟨rfl, rfl, fun j _ hj => fstD_none h j hj⟩
  | some p =>
    obtain ⟨h1, h2, h3⟩ := fstD_some h
    exact .inl ⟨rfl, p, rfl, Int.natCast_nonneg _, h1, h2, fun j _ hj => h3 j hj⟩

def putG (c : Conf) (t n : Nat) (g : GS) (s : Int) : GS × Int :=
  if s < 0 ∨ (nS c t : Int) ≤ s then (g, 2)
  else if g.q.length < n then ({ g with q := g.q ++ [s] }, 0)
  else ({ g with ow := g.ow.set s.toNat true, di := g.di.set (pgN c t s.toNat) true }, 0)
def nextG (g : GS) : GS × Int × Bool :=
  match g.q with
  | [] => (g, 0, false)
  | x :: r => ({ g with q := r }, x, true)
def stepG (g : GS) : GS × Int × Bool × Bool :=
  ({ g with at_ := g.at_ + 1, ow := g.ow.set g.at_ false }, if bnth g.ow g.at_ then (g.at_ : Int) else 0, bnth g.ow g.at_, true)
def turnG (c : Conf) (t : Nat) (g : GS) (p : Nat) : GS := { g with di := g.di.set p false, at_ := fsN c t p, en := fsN c t p + mnN c t p }
def walkG (c : Conf) (t : Nat) (g : GS) : GS × Int × Bool × Bool :=
  if g.at_ = g.en then
    if g.q.length = 0 then
      match fstD g.di with
      | none => (g, 0, false, false)
      | some p => stepG (turnG c t g p)
    else (g, 0, false, false)
  else stepG g
def clearG (c : Conf) (t : Nat) : GS := ⟨[], List.replicate (nS c t) false, List.replicate (nG c t) false, 0, 0⟩
def owedG (g : GS) : Nat := bcnt g.ow g.ow.length
def emptyG (g : GS) : Bool := decide (g.q.length = 0 ∧ g.at_ = g.en ∧ owedG g = 0)

theorem clearG_ok (n : Nat) : GOk c t n (clearG c t) :=
  ⟨Nat.zero_le _, (fun x hx => by cases hx), List.length_replicate, List.length_replicate, .inl rfl, ⟨Nat.zero_le _, Nat.zero_le _⟩⟩
theorem putG_ok {n : Nat} {g : GS} (h : GOk c t n g) (s : Int) : GOk c t n (putG c t n g s).1 := by
  unfold putG
  split
  · exact h
  · split
    · refine ⟨by simp; omega, fun x hx => ?_, h.ol, h.dl, h.wk, h.le⟩
      rcases List.mem_append.1 hx with hx | hx
      · exact h.qs x hx
      · obtain rfl := List.mem_singleton.1 hx; omega
    · exact ⟨h.ql, h.qs, by simpa using h.ol, by simpa using h.dl, h.wk, h.le⟩
theorem nextG_ok {n : Nat} {g : GS} (h : GOk c t n g) : GOk c t n (nextG g).1 := by
  obtain ⟨q, ow, di, a, e⟩ := g
  cases q with
  | nil => exact h
  | cons x r => exact ⟨by have := h.ql; simp [nextG] at this ⊢; omega, fun y hy => h.qs y (List.mem_cons_of_mem _ hy), h.ol, h.dl, h.wk, h.le⟩
theorem turnG_ok (ho : KOk c) (ht : t < c.ts.length) {n : Nat} {g : GS} (h : GOk c t n g) {p : Nat} (hp : p < nG c t) : GOk c t n (turnG c t g p) ∧ (turnG c t g p).at_ ≠ (turnG c t g p).en := by
  have pf := pgFacts ho ht hp
  have := pf.pos; have := pf.le
  refine ⟨⟨h.ql, h.qs, h.ol, by simpa [turnG] using h.dl, .inr ⟨p, hp, Nat.le_refl _, ?_, rfl⟩, ?_, ?_⟩, ?_⟩ <;> simp only [turnG] <;> omega
theorem stepG_ok {n : Nat} {g : GS} (h : GOk c t n g) (hne : g.at_ ≠ g.en) : GOk c t n (stepG g).1 := by
  have le := h.le
  rcases h.wk with w | ⟨p, w1, w2, w3, w4⟩
  · exact absurd w hne
  · refine ⟨h.ql, h.qs, by simpa [stepG] using h.ol, h.dl, ?_, ?_, h.le.2⟩
    · by_cases e : g.at_ + 1 = g.en
      · exact .inl e
      · exact .inr ⟨p, w1, by simp only [stepG]; omega, by simp only [stepG]; omega, w4⟩
    · simp only [stepG]; omega
theorem walkG_ok (ho : KOk c) (ht : t < c.ts.length) {n : Nat} {g : GS} (h : GOk c t n g) : GOk c t n (walkG c t g).1 := by
  unfold walkG
  split
  · split
    · split
      · exact h
      · rename_i p hp
        have := (fstD_some hp).1
        obtain ⟨h1, h2⟩ := turnG_ok ho ht h (p := p) (by rw [← h.dl]; exact this)
        exact stepG_ok h1 h2
    · exact h
  · rename_i hne
    exact stepG_ok h hne

end Go.Proofs.YtlhajoamebfniaaDoor

/-! Worlds that differ in some blocks alone. -/
namespace Go.Proofs.YtlhajoamebfniaaDoor
open Go.RowKit

/-! ### Worlds that differ in some blocks -/
structure Chg (P : Nat → Prop) (w w' : World) : Prop where
  os : w'.os = w.os
  tape : w'.tape = w.tape
  output : w'.output = w.output
  size : w.heap.size ≤ w'.heap.size
  block : ∀ k, k < w.heap.size → ¬ P k → w'.heap[k]? = w.heap[k]?

theorem Chg.refl (P : Nat → Prop) (w : World) : Chg P w w := ⟨rfl, rfl, rfl, Nat.le_refl _, fun _ _ _ => rfl⟩
theorem Chg.trans {P : Nat → Prop} {a b c : World} (h : Chg P a b) (k : Chg P b c) : Chg P a c :=
  ⟨k.os.trans h.os, k.tape.trans h.tape, k.output.trans h.output, Nat.le_trans h.size k.size, fun i hi hp => (k.block i (Nat.lt_of_lt_of_le hi h.size) hp).trans (h.block i hi hp)⟩
theorem Chg.of_ext {P : Nat → Prop} {w w' : World} (h : Ext w w') : Chg P w w' := ⟨Below.os h, Below.tape h, Below.output h, Below.size h, fun k hk _ => Below.block h k hk⟩
theorem Chg.ext {w w' : World} (h : Chg (fun _ => False) w w') : Ext w w' := ⟨h.os, h.tape, h.output, h.size, fun k hk => h.block k hk fun a => a⟩
theorem Chg.mono {P Q : Nat → Prop} {w w' : World} (h : Chg P w w') (hpq : ∀ k, P k → Q k) : Chg Q w w' := ⟨h.os, h.tape, h.output, h.size, fun k hk hq => h.block k hk fun hp => hq (hpq k hp)⟩
theorem Chg.over {P : Nat → Prop} {v w w' : World} (h : Chg P w w') (hx : Ext v w) (hp : ∀ k, P k → v.heap.size ≤ k) : Ext v w' :=
  ⟨h.os.trans (Below.os hx), h.tape.trans (Below.tape hx), h.output.trans (Below.output hx), Nat.le_trans (Below.size hx) h.size,
    fun k hk => (h.block k (Nat.lt_of_lt_of_le hk (Below.size hx)) fun a => Nat.lt_irrefl _ (Nat.lt_of_lt_of_le hk (hp k a))).trans (Below.block hx k hk)⟩
theorem Chg.alloc {P : Nat → Prop} {a w : World} (h : Chg P a w) (o : Obj) : Chg P a (w.alloc o) := h.trans (Chg.of_ext ((Ext.refl w).alloc o))
theorem Chg.drew {P : Nat → Prop} {a w : World} (h : Chg P a w) : Chg P a w.drew := h.trans (Chg.of_ext (Ext.refl w).drew)
theorem Chg.drewN {P : Nat → Prop} {a w : World} (h : Chg P a w) (n : Nat) : Chg P a (w.drewN n) := h.trans (Chg.of_ext ((Ext.refl w).drewN n))
theorem Chg.setCell {P : Nat → Prop} {a w : World} (h : Chg P a w) {p : Addr} (hp : P p.block ∨ a.heap.size ≤ p.block) (u : Value) : Chg P a (w.setCell p u) := by
  have hb : Below 0 w (w.setCell p u) := Below.setCell (Below.refl 0 w) (Nat.zero_le _) u
  refine ⟨hb.os.trans h.os, hb.tape.trans h.tape, hb.output.trans h.output, Nat.le_trans h.size hb.size, fun k hk hn => ?_⟩
  rw [Below.heap_setCell w p u k]
  · exact h.block k hk hn
  · rintro rfl
    rcases hp with hp | hp
    · exact hn hp
    · exact Nat.lt_irrefl _ (Nat.lt_of_lt_of_le hk hp)
theorem Chg.cell {P : Nat → Prop} {w w' : World} (h : Chg P w w') {p : Addr} {v : Value} (hp : ¬ P p.block) (hc : w.cell? p = some v) : w'.cell? p = some v := by
  rw [World.cell?_of_block (w := w) (h.block p.block (cell_lt hc) hp)]; exact hc
theorem Chg.frozen {P : Nat → Prop} {w w' : World} (h : Chg P w w') {p : Addr} (hl : p.block < w.heap.size) (hp : ¬ P p.block) : w'.frozen? p = w.frozen? p :=
  World.frozen?_of_block (w := w) (h.block p.block hl hp)
theorem Chg.size' {P : Nat → Prop} {w w' : World} (h : Chg P w w') : w.heap.size ≤ w'.heap.size := h.size

theorem At.chg {k : IntKind} {P : Nat → Prop} {w w' : World} {a : Option Addr} {xs : List Int} (h : At k w a xs) (hx : Chg P w w') (hp : ∀ b o, a = some ⟨b, o, none⟩ → 0 < xs.length → ¬ P b) : At k w' a xs := by
  intro i hi
  obtain ⟨b, o, e, hc⟩ := h i hi
  exact ⟨b, o, e, hx.cell (hp b o e (by omega)) hc⟩


theorem nth_set {xs : List Int} {i j : Nat} {v : Int} (h : i < xs.length) : nth (xs.set i v) j = if j = i then v else nth xs j := by
  unfold nth
  by_cases e : j = i
  · subst e; simp [h]
  · rw [if_neg e]
    simp [List.getD, List.getElem?_set, Ne.symm e]
theorem At.set {k : IntKind} {w : World} {g j : Nat} {xs : List Int} (h : At k w (some ⟨g, 0, none⟩) xs) (hj : j < xs.length) (v : Int) : At k (w.setCell ⟨g, j, none⟩ (.int k v)) (some ⟨g, 0, none⟩) (xs.set j v) := by
  intro i hi
  rw [List.length_set] at hi
  refine ⟨g, 0, rfl, ?_⟩
  rw [Nat.zero_add]
  obtain ⟨b, o, e, hc⟩ := h i hi
  cases e
  rw [Nat.zero_add] at hc
  rw [nth_set hj]
  by_cases e : i = j
  · subst e
    rw [if_pos rfl]; exact World.cell?_setCell_same w _ _ hc
  · rw [if_neg e, World.cell?_setCell_other _ _ _ _ (by intro e'; cases e'; exact e rfl)]
    exact hc
theorem Chg.setCells {P : Nat → Prop} {b : Nat} : ∀ (vs : List Value) (o : Nat) {a w : World}, Chg P a w → P b → Chg P a (w.setCells b o vs)
  | [], _, _, _, h, _ => h
  | v :: vs, o, _, _, h, hp => Chg.setCells vs (o + 1) (h.setCell (p := ⟨b, o, none⟩) (.inl hp) v) hp

end Go.Proofs.YtlhajoamebfniaaDoor
