/-
  Merged texts: ExC, Law09a, Own, Law09g, Field, Field2, Field3, Field4, Head.
-/
import Derived.Test.YtnbngcagnchkdaaDoorQ03
import Derived.Test.YtnbngcagnchkdaaDoorQ04
import Derived.Test.YtnbngcagnchkdaaDoorQ05
import Derived.Test.YtnbngcagnchkdaaDoorQ02
import Derived.Laws.AppendOwn
import Derived.Laws.OwnMore
import Derived.OwnWalk
import Derived.ArgAppend
import Derived.Deep.RegionHeld
import Derived.RegionTactic
import Derived.Deep.RegionWith
import Derived.Test.YtnbngcagnchkdaaDoorProg
import Derived.Test.YtnbngcagnchkdaaDoorQ01
import Derived.Lib.BitFns
import Derived.WalkKit
import Derived.WalkSpells
import Derived.WalkLawsBesides
import Derived.Outline
import Derived.BigQuiet
import Derived.Deep.QuietTactic
import Derived.Deep.RegionHeld3
import Derived.BigRegion
set_option linter.unusedVariables false
set_option linter.unusedSimpArgs false
/-! The document's example of a configuration, as data and in the memory. -/
namespace Go.Proofs.YtnbngcagnchkdaaDoor
open Go.RowKit

def exC : Conf := ⟨[2, 4], 8, [⟨20, 8, 4, 1⟩, ⟨4, 1, 1, 0⟩], 1, 2, 3⟩

theorem TenAt.newb (w : World) (ts : List Ten) (vs : Array Value) (t : TypeId) (b : Nat) (hb : w.heap.size = b) (h : ∀ i, i < ts.length → vs[i * 4]? = some (.int .i64 (tnth ts i).q) ∧ vs[i * 4 + 1]? = some (.int .i64 (tnth ts i).tr) ∧ vs[i * 4 + 2]? = some (.int .i64 (tnth ts i).cp) ∧ vs[i * 4 + 3]? = some (.int .i64 (tnth ts i).sst)) :
    TenAt (w.alloc (.cells vs t)) (some ⟨b, 0, none⟩) ts := by
  subst hb
  intro i hi
  obtain ⟨h0, h1, h2, h3⟩ := h i hi
  refine ⟨_, 0, rfl, ?_, ?_, ?_, ?_⟩
  · rw [Nat.zero_add, cell_newN]; exact h0
  · rw [Nat.zero_add, cell_newN]; exact h1
  · rw [Nat.zero_add, cell_newN]; exact h2
  · rw [Nat.zero_add, cell_newN]; exact h3

def IsExample (w : World) (e : Ending) (w' : World) : Prop :=
  ∃ ca ta, e = .returned (.agg #[.slice ca 2 2, .int .i64 8, .slice ta 2 2, .int .i64 1, .int .i64 2, .int .i64 3]) ∧ CfgAt w' ca ta 2 2 exC ∧ Ext w w'

theorem CBox.mk6 {w : World} {b : Nat} {ca ta : Option Addr} {cc tc : Nat} {c : Conf} (h0 : w.cell? ⟨b, 0, none⟩ = some (.slice ca c.cl.length cc)) (h1 : w.cell? ⟨b, 1, none⟩ = some (.int .i64 c.page))
    (h2 : w.cell? ⟨b, 2, none⟩ = some (.slice ta c.ts.length tc)) (h3 : w.cell? ⟨b, 3, none⟩ = some (.int .i64 c.wk)) (h4 : w.cell? ⟨b, 4, none⟩ = some (.int .i64 c.gr)) (h5 : w.cell? ⟨b, 5, none⟩ = some (.int .i64 c.gens)) : CBox w b ca ta cc tc c := ⟨h0, h1, h2, h3, h4, h5⟩


end Go.Proofs.YtnbngcagnchkdaaDoor

/-! commonagelaw09: awake, great. -/
namespace Go.Proofs.YtnbngcagnchkdaaDoor
open Go.RowKit Go.Shelf

set_option maxHeartbeats 2000000 in
theorem slot_Addr_no {b gp : Nat} {c : Conf} {t : Nat} {s : Int} {w : World} (h : PlanAt w b gp c t) (hk : s < 0 ∨ sS c t c.cl.length ≤ s) :
    Calls Tryd.prog 57 #[.pointer (some ⟨b, 0, none⟩), .int .i64 s] w fun e w' => e = .returned (.tuple #[.int .i64 0, .int .i64 2]) ∧ Ext w w' := by
  have H := Lib.hid h; have HK := Lib.hid hk
  clear h hk
  go_enter Tryd.func57, Tryd.ntmps57
  go_wp2_with fail
  refine (slot_find_no H.out HK.out).mono ?_
  rintro e w1 ⟨rfl, x⟩
  go_wp2_with fail
  go_ret2
  exact ⟨rfl, x⟩

end Go.Proofs.YtnbngcagnchkdaaDoor

/-! Rows of a call's own making that hold numbers or tenants: what is read of them, and what a store leaves. -/
namespace Go.Proofs.YtnbngcagnchkdaaDoor
open Go.RowKit

/-! ### Tenants as cells -/
def tcs : List Ten → List Value
  | [] => []
  | t :: r => .int .i64 t.q :: .int .i64 t.tr :: .int .i64 t.cp :: .int .i64 t.sst :: tcs r

theorem tcs_len : ∀ ts : List Ten, (tcs ts).length = ts.length * 4
  | [] => rfl
  | t :: r => by unfold tcs; simp [tcs_len r]; omega
theorem tcs_one : ∀ ts : List Ten, ∀ u ∈ tcs ts, u.oneCell' = true
  | [], u, h => by simp [tcs] at h
  | t :: r, u, h => by
    unfold tcs at h
    simp only [List.mem_cons] at h
    rcases h with rfl | rfl | rfl | rfl | h
    · rfl
    · rfl
    · rfl
    · rfl
    · exact tcs_one r u h
theorem tcs_at : ∀ (ts : List Ten) (i : Nat), i < ts.length →
    (tcs ts)[i * 4]? = some (.int .i64 (tnth ts i).q) ∧ (tcs ts)[i * 4 + 1]? = some (.int .i64 (tnth ts i).tr) ∧ (tcs ts)[i * 4 + 2]? = some (.int .i64 (tnth ts i).cp) ∧ (tcs ts)[i * 4 + 3]? = some (.int .i64 (tnth ts i).sst)
  | [], i, h => absurd h (Nat.not_lt_zero _)
  | t :: r, 0, _ => ⟨rfl, rfl, rfl, rfl⟩
  | t :: r, i + 1, h => by
    have ih := tcs_at r i (by simpa using h)
    have e : (i + 1) * 4 = i * 4 + 4 := by omega
    rw [e]
    exact ih
theorem tcs_news {w : World} {b o : Nat} {ts : List Ten} (h : ∀ i, i < ts.length → w.cell? ⟨b, o + i * 4, none⟩ = some (.int .i64 (tnth ts i).q) ∧ w.cell? ⟨b, o + i * 4 + 1, none⟩ = some (.int .i64 (tnth ts i).tr) ∧
    w.cell? ⟨b, o + i * 4 + 2, none⟩ = some (.int .i64 (tnth ts i).cp) ∧ w.cell? ⟨b, o + i * 4 + 3, none⟩ = some (.int .i64 (tnth ts i).sst)) :
    ∀ j u, (tcs ts)[j]? = some u → w.cell? ((⟨b, o, none⟩ : Addr).add j) = some u := by
  intro j u hj
  have hl : j < (tcs ts).length := (List.getElem?_eq_some_iff.1 hj).1
  rw [tcs_len] at hl
  have hi : j / 4 < ts.length := by omega
  obtain ⟨a0, a1, a2, a3⟩ := tcs_at ts (j / 4) hi
  obtain ⟨c0, c1, c2, c3⟩ := h (j / 4) hi
  rw [Addr.add_lit]
  have hr : j % 4 = 0 ∨ j % 4 = 1 ∨ j % 4 = 2 ∨ j % 4 = 3 := by omega
  rcases hr with hr | hr | hr | hr
  · have e : j = j / 4 * 4 := by omega
    rw [← e] at a0 c0; rw [a0] at hj; cases hj; exact c0
  · have e : j = j / 4 * 4 + 1 := by omega
    rw [← e] at a1; rw [a1] at hj; cases hj
    rw [show o + j = o + j / 4 * 4 + 1 by omega]; exact c1
  · have e : j = j / 4 * 4 + 2 := by omega
    rw [← e] at a2; rw [a2] at hj; cases hj
    rw [show o + j = o + j / 4 * 4 + 2 by omega]; exact c2
  · have e : j = j / 4 * 4 + 3 := by omega
    rw [← e] at a3; rw [a3] at hj; cases hj
    rw [show o + j = o + j / 4 * 4 + 3 by omega]; exact c3

/-- A row of tenants of the call's own. -/
theorem own_tens {w : World} {base e : Nat} {v : Value} {n : Nat} {ts : List Ten} (h : w.ownsRow base e 4 v n (tcs ts)) (h0 : 0 < n) :
    ∃ g cap, v = .slice (some ⟨g, 0, none⟩) n cap ∧ base ≤ g ∧ g < w.heap.size ∧ n = ts.length ∧ n ≤ cap ∧ cap ≤ maxLen ∧ TenAt w (some ⟨g, 0, none⟩) ts ∧ ∀ o, w.frozen? ⟨g, o, none⟩ = false := by
  have hn : n = ts.length := by have := h.1; rw [tcs_len] at this; omega
  have h' := h
  obtain ⟨_, ⟨rfl, rfl⟩ | ⟨g, cap, cur, rfl, hb, hh, hc, hm, hs, ht⟩⟩ := h
  · exact absurd h0 (Nat.lt_irrefl 0)
  · refine ⟨g, cap, rfl, hb, (Array.getElem?_eq_some_iff.1 hh).1, hn, hc, hm, ?_, fun o => h'.frozenAt o⟩
    intro i hi
    obtain ⟨a0, a1, a2, a3⟩ := tcs_at ts i hi
    refine ⟨g, 0, rfl, ?_, ?_, ?_, ?_⟩
    · rw [Nat.zero_add, h'.cellAt _ (by omega)]; exact a0
    · rw [Nat.zero_add, h'.cellAt _ (by omega)]; exact a1
    · rw [Nat.zero_add, h'.cellAt _ (by omega)]; exact a2
    · rw [Nat.zero_add, h'.cellAt _ (by omega)]; exact a3

end Go.Proofs.YtnbngcagnchkdaaDoor

/-! commonagelaw09: great. -/
namespace Go.Proofs.YtnbngcagnchkdaaDoor
open Go.RowKit

/-- More than a statement looks at. -/
def bigC (c : Conf) : Bool := !(decide (c.cl.length ≤ 50 ∧ c.ts.length ≤ 50)) || decide (6000 < (ktotal c).1)

theorem slot_SlotsV {b gp : Nat} {c : Conf} {t : Nat} (n : Int) {w : World} (hn : sS c t c.cl.length = n) (h : PlanAt w b gp c t) : Calls Tryd.prog 29 #[.pointer (some ⟨b, 0, none⟩)] w fun e w' => e = .returned (.int .i64 n) ∧ w = w' := by
  subst hn; exact slot_Slots h
theorem slot_WordsV {b gp : Nat} {c : Conf} {t : Nat} (n : Int) {w : World} (hn : sG c t c.cl.length * c.page = n) (h : PlanAt w b gp c t) : Calls Tryd.prog 30 #[.pointer (some ⟨b, 0, none⟩)] w fun e w' => e = .returned (.int .i64 n) ∧ Ext w w' := by
  subst hn; exact slot_Words h
theorem slot_AddrV {b gp k : Nat} {c : Conf} {t : Nat} {s : Int} (a : Int) {w : World} (ha : addrOf c t s k = a) (h : PlanAt w b gp c t) (hk : AtClass c t s k) :
    Calls Tryd.prog 57 #[.pointer (some ⟨b, 0, none⟩), .int .i64 s] w fun e w' => e = .returned (.tuple #[.int .i64 a, .int .i64 0]) ∧ Ext w w' := by
  subst ha; exact slot_Addr h hk
theorem slot_SizeV {b gp k : Nat} {c : Conf} {t : Nat} {s : Int} (a : Int) {w : World} (ha : nth c.cl k = a) (h : PlanAt w b gp c t) (hk : AtClass c t s k) :
    Calls Tryd.prog 58 #[.pointer (some ⟨b, 0, none⟩), .int .i64 s] w fun e w' => e = .returned (.tuple #[.int .i64 a, .int .i64 0]) ∧ Ext w w' := by
  subst ha; exact slot_Size h hk
theorem slot_NewN {ca ta : Option Addr} {cc tc n : Nat} {cl : List Int} {page wk gr gens : Int} (c : Conf) (i : Int) {w : World} (hk0 : kcheck c = 0) (h : CfgAt w ca ta cc tc c) (j : Nat) (hj : i = j) (hi : j < c.ts.length)
    (hn : c.ts.length = n) (h1 : c.cl = cl) (h2 : c.page = page) (h3 : c.wk = wk) (h4 : c.gr = gr) (h5 : c.gens = gens) :
    Calls Tryd.prog 6 #[.agg #[.slice ca cl.length cc, .int .i64 page, .slice ta n tc, .int .i64 wk, .int .i64 gr, .int .i64 gens], .int .i64 i] w (PlanNew c j w) := by
  subst hn h1 h2 h3 h4 h5 hj; exact slot_New c j hk0 hi h


end Go.Proofs.YtnbngcagnchkdaaDoor

/-! bits.Len64, field.may, mask, Get, Set: each function hands back what its plain function computes, and leaves all that there was as it was. -/
namespace Go.Proofs.YtnbngcagnchkdaaDoor
open Go.RowKit

/-! ### bits.Len64 -/
theorem len_shift {x q : Int} {k d : Nat} (h0 : 0 ≤ x) (h1 : x < 18446744073709551616) (hd : 2 ^ k = d) (hq : q = x / d) (hx : (d : Int) ≤ x) (h8 : q < 256) :
    (Lib.len8 q) + k = (Lib.bitLen x.toNat : Int) := by
  have hd0 : 0 < d := hd ▸ Nat.two_pow_pos k
  have hq0 : 0 ≤ q := by rw [hq]; exact Int.ediv_nonneg h0 (by omega)
  have e : q.toNat = x.toNat / d := by
    obtain ⟨y, rfl⟩ := Int.eq_ofNat_of_zero_le h0
    rw [hq, ← Int.natCast_ediv, Int.toNat_natCast, Int.toNat_natCast]
  rw [Lib.len8_of q hq0 (by omega), e, Lib.bitLen_shift k x.toNat (by omega) (lt64 h0 h1), hd]
  omega
theorem len_le8 {q : Int} (h0 : 0 ≤ q) (h1 : q < 256) : 0 ≤ Lib.len8 q ∧ Lib.len8 q ≤ 8 := by
  rw [Lib.len8_of q h0 (by omega)]
  have := Lib.bitLen_le8' q h0 (by omega)
  omega
theorem len_idx (q : Int) (h : q.toNat < Lib.len8tab.size) : ((Lib.len8tab[q.toNat]'h).toNat : Int) = Lib.len8 q := by
  unfold Lib.len8
  simp [h]
theorem len_way {x q : Int} (k d : Nat) (h0 : 0 ≤ x) (h1 : x < 18446744073709551616) (hd : 2 ^ k = d) (hq : q = x / d) (hx : (d : Int) ≤ x) (h8 : q < 256) (hk : k ≤ 56) (h : q.toNat < Lib.len8tab.size) :
    wrap64 (k + wrap64 ((Lib.len8tab[q.toNat]'h).toNat : Int)) = (Lib.bitLen x.toNat : Int) := by
  have hq0 : 0 ≤ q := by rw [hq]; exact Int.ediv_nonneg h0 (by omega)
  have l := len_le8 hq0 h8
  rw [len_idx, IntWalk.wrap64_in (Lib.len8 q) (by omega), IntWalk.wrap64_in _ (by omega), Int.add_comm]
  exact len_shift h0 h1 hd hq hx h8
theorem len_way0 {x : Int} (h0 : 0 ≤ x) (h8 : x < 256) (h : x.toNat < Lib.len8tab.size) :
    wrap64 ((Lib.len8tab[x.toNat]'h).toNat : Int) = (Lib.bitLen x.toNat : Int) := by
  have l := len_le8 h0 h8
  rw [len_idx, IntWalk.wrap64_in (Lib.len8 x) (by omega), Lib.len8_of x h0 (by omega)]

theorem bitLen_iff {x m : Nat} (hx : x < 2 ^ 64) (hm : m ≤ 64) : Lib.bitLen x ≤ m ↔ x < 2 ^ m := by
  constructor
  · intro h
    rcases Nat.lt_or_ge x (2 ^ m) with c | c
    · exact c
    · exfalso
      have h1 := Lib.bitLen_shift m x c hx
      have h2 : 0 < x / 2 ^ m := Nat.div_pos c (Nat.two_pow_pos m)
      have h3 := Lib.bitLen_half (x / 2 ^ m) (by omega) (Nat.lt_of_le_of_lt (Nat.div_le_self _ _) hx)
      omega
  · intro h; exact Lib.bitLen_le x m hm h
theorem bitLen_64 (x : Nat) (hx : x < 2 ^ 64) : Lib.bitLen x ≤ 64 := Lib.bitLen_le x 64 (Nat.le_refl _) hx
theorem len_test {v m : Int} (h0 : 0 ≤ v) (h1 : v < 18446744073709551616) (a : 1 ≤ m) (b : m ≤ 64) : decide (m < (Lib.bitLen v.toNat : Int)) = !fitsB v m := by
  have := bitLen_iff (x := v.toNat) (m := m.toNat) (lt64 h0 h1) (by omega)
  unfold fitsB
  by_cases h : v.toNat < 2 ^ m.toNat
  · rw [decide_eq_true h, decide_eq_false (by have := this.2 h; omega)]; rfl
  · rw [decide_eq_false h, decide_eq_true (by have := fun c => h (this.1 c); omega)]; rfl

set_option maxHeartbeats 4000000 in
set_option maxRecDepth 100000 in
theorem bits_Len64 (x n : Int) (w : World) (h0 : 0 ≤ x) (h1 : x < 18446744073709551616) (hn : (Lib.bitLen x.toNat : Int) = n) :
    Calls Tryd.prog 84 #[.int .u64 x] w fun e w' => e = .returned (.int .i64 n) ∧ w = w' := by
  have HN := Lib.hid hn; have H1 := Lib.hid h1; clear hn
  replace h1 : x ≤ 18446744073709551615 := by omega
  have ht := Lib.len8tab_size
  go_enter Tryd.func84, Tryd.ntmps84
  go_wp2_with fail
  all_goals go_ret
  all_goals refine ⟨ret_int ?_, rfl⟩
  all_goals rw [← HN.out]
  · exact len_way 56 72057594037927936 h0 H1.out (by decide) (by omega) (by omega) (by omega) (by omega) _
  · exact len_way 48 281474976710656 h0 H1.out (by decide) (by omega) (by omega) (by omega) (by omega) _
  · exact len_way 40 1099511627776 h0 H1.out (by decide) (by omega) (by omega) (by omega) (by omega) _
  · exact len_way 32 4294967296 h0 H1.out (by decide) (by omega) (by omega) (by omega) (by omega) _
  · exact len_way 24 16777216 h0 H1.out (by decide) (by omega) (by omega) (by omega) (by omega) _
  · exact len_way 16 65536 h0 H1.out (by decide) (by omega) (by omega) (by omega) (by omega) _
  · exact len_way 8 256 h0 H1.out (by decide) (by omega) (by omega) (by omega) (by omega) _
  · have hb := bitLen_64 x.toNat (lt64 h0 H1.out)
    rw [len_way0 h0 (by omega), IntWalk.wrap64_in _ (by omega)]

/-! ### may, mask -/
set_option maxHeartbeats 1000000 in
theorem field_may {f m : Int} (b : Bool) {w : World} (hb : mayB f m = b) : Calls Tryd.prog 95 #[.int .i64 f, .int .i64 m] w fun e w' => e = .returned (.bool b) ∧ w = w' := by
  have HB := Lib.hid hb; clear hb
  go_enter Tryd.func95, Tryd.ntmps95
  go_wp2_with fail
  all_goals go_ret
  all_goals refine ⟨ret_bool ?_, rfl⟩
  all_goals rw [← HB.out, Bool.eq_iff_iff, mayB_iff]
  all_goals simp
  all_goals omega

set_option maxHeartbeats 1000000 in
theorem field_mask {m : Int} (k : Int) {w : World} (h1 : 1 ≤ m) (h2 : m ≤ 64) (hk : ((2 ^ m.toNat - 1 : Nat) : Int) = k) : Calls Tryd.prog 96 #[.int .i64 m] w fun e w' => e = .returned (.int .u64 k) ∧ w' = w := by
  have HK := Lib.hid hk; clear hk
  go_enter Tryd.func96, Tryd.ntmps96
  go_wp2_with fail
  go_ret
  refine ⟨ret_int ?_, rfl⟩
  rw [← HK.out, ← mask_eq (by omega), show (64 - m).toNat = 64 - m.toNat by omega]
  rfl

/-! ### Get, Set -/
theorem div_pow_cast (n k : Nat) : (n : Int) / 2 ^ k = ((n / 2 ^ k : Nat) : Int) := by simp
theorem mul_pow_cast (n k : Nat) : (n : Int) * 2 ^ k = ((n * 2 ^ k : Nat) : Int) := by simp
theorem get_codeI {v f m : Int} (h0 : 0 ≤ v) (h1 : v < 18446744073709551616) (hm : mayB f m = true) : bits .and .u64 (v / 2 ^ f.toNat) ((2 ^ m.toNat - 1 : Nat) : Int) = fgetI v f m := by
  obtain ⟨a, b, rfl, rfl, b1, b2, b3⟩ := mayB_nat hm
  obtain ⟨n, rfl⟩ := Int.eq_ofNat_of_zero_le h0
  have hn : n < 2 ^ 64 := lt64 h0 h1
  have e : (2 : Nat) ^ 64 = 18446744073709551616 := by decide
  have h2 : (2 : Nat) ^ b ≤ 2 ^ 64 := Nat.pow_le_pow_right (by decide) b2
  rw [Int.toNat_natCast, Int.toNat_natCast, div_pow_cast, u64_and_nat _ _ (Nat.lt_of_le_of_lt (Nat.div_le_self _ _) (by omega)) (by omega)]
  unfold fgetI
  rw [Int.toNat_natCast, Int.toNat_natCast, Int.toNat_natCast, ← get_code b2, mask_eq b2]
set_option maxHeartbeats 1000000 in
theorem field_Get {v f m : Int} (p q : Int) {w : World} (h0 : 0 ≤ v) (h1 : v < 18446744073709551616) (hpq : gget v f m = (p, q)) :
    Calls Tryd.prog 87 #[.int .u64 v, .int .i64 f, .int .i64 m] w fun e w' => e = .returned (.tuple #[.int .u64 p, .int .i64 q]) ∧ Ext w w' := by
  have H1 := Lib.hid h1; clear h1
  by_cases hm : mayB f m = true
  · have HM := Lib.hid hm
    obtain ⟨rfl, rfl⟩ : fgetI v f m = p ∧ 0 = q := by unfold gget at hpq; rw [if_pos hm] at hpq; simpa using hpq
    obtain ⟨g1, g2, g3, g4⟩ := mayB_iff.1 hm
    clear hm hpq
    go_enter Tryd.func87, Tryd.ntmps87
    go_wp2_with fail
    refine (field_may true HM.out).mono ?_
    rintro e w1000 ⟨rfl, rfl⟩
    go_wp2_with fail
    go_quiet ((go_at_call 96; exact Calls.quiet_of_same (field_mask _ g2 g3 rfl)))
    go_wp2_with fail
    go_ret2
    exact ⟨ret_int2 (get_codeI h0 H1.out HM.out) rfl, (Ext.refl w).drewN _⟩
  · have HM := Lib.hid (Bool.not_eq_true _ ▸ hm)
    obtain ⟨rfl, rfl⟩ : 0 = p ∧ 2 = q := by unfold gget at hpq; rw [if_neg hm] at hpq; simpa using hpq
    clear hm hpq
    go_enter Tryd.func87, Tryd.ntmps87
    go_wp2_with fail
    refine (field_may false HM.out).mono ?_
    rintro e w1000 ⟨rfl, rfl⟩
    go_wp2_with fail
    go_ret2
    exact ⟨rfl, Ext.refl _⟩

theorem set_codeI {u f m v : Int} (h0 : 0 ≤ u) (h1 : u < 18446744073709551616) (h2 : 0 ≤ v) (h3 : v < 18446744073709551616) (hm : mayB f m = true) (hf : fitsB v m = true) :
    bits .or .u64 (bits .andNot .u64 u (IntKind.u64.wrap (((2 ^ m.toNat - 1 : Nat) : Int) * 2 ^ f.toNat))) (IntKind.u64.wrap (v * 2 ^ f.toNat)) = fsetI u f m v := by
  obtain ⟨a, b, rfl, rfl, b1, b2, b3⟩ := mayB_nat hm
  obtain ⟨n, rfl⟩ := Int.eq_ofNat_of_zero_le h0
  obtain ⟨k, rfl⟩ := Int.eq_ofNat_of_zero_le h2
  have hn : n < 2 ^ 64 := lt64 h0 h1
  have e : (2 : Nat) ^ 64 = 18446744073709551616 := by decide
  unfold fitsB at hf
  simp only [Int.toNat_natCast, decide_eq_true_eq] at hf
  have m1 := mask_lt b3
  have m2 := val_lt b3 hf
  rw [Int.toNat_natCast, Int.toNat_natCast, mul_pow_cast, mul_pow_cast, IntKind.wrap_u64, IntKind.wrap_u64]
  have w1 : (((2 ^ b - 1) * 2 ^ a : Nat) : Int) % 18446744073709551616 = (((2 ^ b - 1) * 2 ^ a : Nat) : Int) := Int.emod_eq_of_lt (by omega) (by omega)
  have w2 : ((k * 2 ^ a : Nat) : Int) % 18446744073709551616 = ((k * 2 ^ a : Nat) : Int) := Int.emod_eq_of_lt (by omega) (by omega)
  rw [w1, w2, u64_andNot_nat _ _ (by omega) (by omega)]
  have e2 : 18446744073709551615 - (2 ^ b - 1) * 2 ^ a = 2 ^ 64 - ((2 ^ b - 1) * 2 ^ a + 1) := by omega
  rw [e2, u64_or_nat _ _ (Nat.lt_of_le_of_lt Nat.and_le_left (by omega)) (by omega), set_code hn b3 hf]
  unfold fsetI
  simp only [Int.toNat_natCast]

set_option maxHeartbeats 1000000 in
theorem field_Set {u f m v : Int} (p q : Int) {w : World} (h0 : 0 ≤ u) (h1 : u < 18446744073709551616) (h2 : 0 ≤ v) (h3 : v < 18446744073709551616) (hpq : gset u f m v = (p, q)) :
    Calls Tryd.prog 98 #[.int .u64 u, .int .i64 f, .int .i64 m, .int .u64 v] w fun e w' => e = .returned (.tuple #[.int .u64 p, .int .i64 q]) ∧ Ext w w' := by
  have H1 := Lib.hid h1; clear h1
  have H3 := Lib.hid h3; clear h3
  obtain ⟨n, hn⟩ : ∃ n : Int, (Lib.bitLen v.toNat : Int) = n := ⟨_, rfl⟩
  by_cases hm : mayB f m = true
  · have HM := Lib.hid hm
    obtain ⟨g1, g2, g3, g4⟩ := mayB_iff.1 hm
    have ht := len_test h2 H3.out g2 g3
    rw [hn] at ht
    have HN := Lib.hid hn; clear hn
    cases hf : fitsB v m
    · obtain ⟨rfl, rfl⟩ : 0 = p ∧ 4 = q := by unfold gset at hpq; rw [if_pos hm, hf] at hpq; simpa using hpq
      rw [hf] at ht
      clear hm hpq hf
      replace ht : m < n := by simpa using ht
      go_enter Tryd.func98, Tryd.ntmps98
      go_wp2_with fail
      refine (field_may true HM.out).mono ?_
      rintro e w1000 ⟨rfl, rfl⟩
      go_wp2_with fail
      refine (bits_Len64 _ n _ h2 H3.out HN.out).mono ?_
      rintro e w1000 ⟨rfl, rfl⟩
      go_wp2_with fail
      go_ret2
      exact ⟨rfl, Ext.refl _⟩
    · obtain ⟨rfl, rfl⟩ : fsetI u f m v = p ∧ 0 = q := by unfold gset at hpq; rw [if_pos hm, hf] at hpq; simpa using hpq
      have HF := Lib.hid hf
      rw [hf] at ht
      clear hm hpq hf
      replace ht : n ≤ m := by simpa using ht
      go_enter Tryd.func98, Tryd.ntmps98
      go_wp2_with fail
      refine (field_may true HM.out).mono ?_
      rintro e w1000 ⟨rfl, rfl⟩
      go_wp2_with fail
      refine (bits_Len64 _ n _ h2 H3.out HN.out).mono ?_
      rintro e w1000 ⟨rfl, rfl⟩
      go_wp2_with fail
      go_quiet ((go_at_call 96; exact Calls.quiet_of_same (field_mask _ g2 g3 rfl)))
      go_wp2_with fail
      go_ret2
      exact ⟨ret_int2 (set_codeI h0 H1.out h2 H3.out HM.out HF.out) rfl, (Ext.refl w).drewN _⟩
  · have HM := Lib.hid (Bool.not_eq_true _ ▸ hm)
    obtain ⟨rfl, rfl⟩ : 0 = p ∧ 2 = q := by unfold gset at hpq; rw [if_neg hm] at hpq; simpa using hpq
    clear hm hpq hn
    go_enter Tryd.func98, Tryd.ntmps98
    go_wp2_with fail
    refine (field_may false HM.out).mono ?_
    rintro e w1000 ⟨rfl, rfl⟩
    go_wp2_with fail
    go_ret2
    exact ⟨rfl, Ext.refl _⟩

end Go.Proofs.YtnbngcagnchkdaaDoor

/-! field.each, all, Pack, Unpack. -/
namespace Go.Proofs.YtnbngcagnchkdaaDoor
open Go.RowKit

/-- A function value that is called field by field: at field i it answers err i, and leads from a world of I i to one of I (i + 1). -/
def Steps (P : Program) (g : Nat) (cs : Array Value) (xs : List Int) (err : Nat → Int) (I : Nat → World → Prop) (n : Nat) : Prop :=
  ∀ i w', i < n → I i w' → Calls P g (#[.int .i64 i, .int .i64 (fr xs i), .int .i64 (nth xs i)] ++ cs) w' fun e w'' => e = .returned (.int .i64 (err i)) ∧ I (i + 1) w''

set_option maxHeartbeats 2000000 in
theorem field_each_ok {a : Option Addr} {cap g : Nat} {cs : Array Value} (xs : List Int) (s : Int) (I : Nat → World → Prop) {w : World} (hl : xs.length ≤ maxLen)
    (hat : ∀ i w', I i w' → At .i64 w' a xs) (hst : Steps Tryd.prog g cs xs (fun _ => 0) I xs.length) (hfr : ∀ i, i ≤ xs.length → 0 ≤ fr xs i ∧ fr xs i ≤ 64) (hI : I 0 w) (hk : Enters Tryd.prog g) (hs : fr xs xs.length = s) :
    Calls Tryd.prog 85 #[.slice a xs.length cap, .func (.func g) #[] cs] w fun e w' => e = .returned (.tuple #[.int .i64 s, .int .i64 0]) ∧ I xs.length w' := by
  unfold Enters at hk
  unfold maxLen at hl
  have HA := Lib.hid hat; have HS := Lib.hid hst; have HF := Lib.hid hfr; have HI := Lib.hid hI; have HE := Lib.hid hs
  clear hat hst hfr hI hs
  go_enter Tryd.func85, Tryd.ntmps85
  go_wp2_with fail
  go_loopw [6, 12] (fun u i wr => ∃ k : Nat, k ≤ xs.length ∧ i = .int .i64 k ∧ u = .int .i64 (fr xs k) ∧ Hid (I k wr)) (fun _ i _ => xs.length - (intOf i).toNat)
  case atStart => exact ⟨0, Nat.zero_le _, rfl, rfl, HI⟩
  case round =>
    obtain ⟨k, hk1, rfl, rfl, HK⟩ := hrel
    by_cases hlt : k < xs.length
    · obtain ⟨b, o, rfl, hc⟩ := (HA.out _ _ HK.out).pos (by omega)
      have hck := hc k hlt
      clear hc
      have CC := Lib.hid (HS.out k _ hlt HK.out)
      have f0 := HF.out k (by omega)
      have f1 := HF.out (k + 1) (by omega)
      have HU := Lib.hid (show fr xs (k + 1) = fr xs k + nth xs k from rfl)
      rw [HU.out] at f1
      generalize fr xs k = u at *
      generalize nth xs k = v at *
      go_wp2_with fail
      refine CC.out.mono ?_
      rintro e w1 ⟨rfl, hw1⟩
      have HW := Lib.hid hw1
      clear hw1 hck
      go_wp2_with fail
      go_roundw
      case rel => exact ⟨k + 1, by omega, by go_num, by rw [HU.out], HW⟩
      case measure => simp [intOf]; omega
    · obtain rfl : k = xs.length := by omega
      go_wp2_with fail
      go_ret2
      exact ⟨ret_int2 HE.out rfl, HK.out⟩

set_option maxHeartbeats 2000000 in
theorem field_each_err {a : Option Addr} {cap g : Nat} {cs : Array Value} (xs : List Int) (n : Nat) (q : Int) (I : Nat → World → Prop) {w : World} (hl : xs.length ≤ maxLen)
    (hat : ∀ i w', I i w' → At .i64 w' a xs) (hn : n < xs.length) (hq : q ≠ 0) (hst : Steps Tryd.prog g cs xs (fun i => if i = n then q else 0) I (n + 1)) (hfr : ∀ i, i ≤ n → 0 ≤ fr xs i ∧ fr xs i ≤ 64) (hI : I 0 w) (hk : Enters Tryd.prog g) :
    Calls Tryd.prog 85 #[.slice a xs.length cap, .func (.func g) #[] cs] w fun e w' => e = .returned (.tuple #[.int .i64 0, .int .i64 q]) ∧ I (n + 1) w' := by
  unfold Enters at hk
  unfold maxLen at hl
  have HA := Lib.hid hat; have HS := Lib.hid hst; have HF := Lib.hid hfr; have HI := Lib.hid hI; have HQ := Lib.hid hq
  clear hat hst hfr hI hq
  go_enter Tryd.func85, Tryd.ntmps85
  go_wp2_with fail
  go_loopw [6, 12] (fun u i wr => ∃ k : Nat, k ≤ n ∧ i = .int .i64 k ∧ u = .int .i64 (fr xs k) ∧ Hid (I k wr)) (fun _ i _ => xs.length - (intOf i).toNat)
  case atStart => exact ⟨0, Nat.zero_le _, rfl, rfl, HI⟩
  case round =>
    obtain ⟨k, hk1, rfl, rfl, HK⟩ := hrel
    have hlt : k < xs.length := by omega
    obtain ⟨b, o, rfl, hc⟩ := (HA.out _ _ HK.out).pos (by omega)
    have hck := hc k hlt
    clear hc
    by_cases hkn : k < n
    · have CC : Hid (Calls Tryd.prog g (#[.int .i64 k, .int .i64 (fr xs k), .int .i64 (nth xs k)] ++ cs) wr fun e w'' => e = .returned (.int .i64 0) ∧ I (k + 1) w'') :=
        Lib.hid ((HS.out k _ (by omega) HK.out).mono fun _ _ ⟨he, hi⟩ => ⟨he.trans (ret_int (if_neg (by omega))), hi⟩)
      have f0 := HF.out k (by omega)
      have f1 := HF.out (k + 1) (by omega)
      have HU := Lib.hid (show fr xs (k + 1) = fr xs k + nth xs k from rfl)
      rw [HU.out] at f1
      generalize fr xs k = u at *
      generalize nth xs k = v at *
      go_wp2_with fail
      refine CC.out.mono ?_
      rintro e w1 ⟨rfl, hw1⟩
      have HW := Lib.hid hw1
      clear hw1 hck
      go_wp2_with fail
      go_roundw
      case rel => exact ⟨k + 1, by omega, by go_num, by rw [HU.out], HW⟩
      case measure => simp [intOf]; omega
    · obtain rfl : k = n := by omega
      have CC : Hid (Calls Tryd.prog g (#[.int .i64 k, .int .i64 (fr xs k), .int .i64 (nth xs k)] ++ cs) wr fun e w'' => e = .returned (.int .i64 q) ∧ I (k + 1) w'') :=
        Lib.hid ((HS.out k _ (by omega) HK.out).mono fun _ _ ⟨he, hi⟩ => ⟨he.trans (ret_int (if_pos rfl)), hi⟩)
      have hq2 : (q != 0) = true := by simpa using HQ.out
      generalize fr xs k = u at *
      generalize nth xs k = v at *
      go_wp2_with fail
      refine CC.out.mono ?_
      rintro e w1 ⟨rfl, hw1⟩
      have HW := Lib.hid hw1
      clear hw1 hck
      go_wp2_with fail
      go_ret2
      exact ⟨rfl, HW.out⟩

/-! ### all -/
theorem enters_all1 : Enters Tryd.prog 94 := Enters.mk Tryd.func94 (by kernel_rfl) rfl
theorem enters_Pack1 : Enters Tryd.prog 97 := Enters.mk Tryd.func97 (by kernel_rfl) rfl
theorem enters_Unpack1 : Enters Tryd.prog 86 := Enters.mk Tryd.func86 (by kernel_rfl) rfl

set_option maxHeartbeats 1000000 in
theorem field_all1 {i f m : Int} (q : Int) {w : World} (hq : (if mayB f m = true then (0 : Int) else 2) = q) :
    Calls Tryd.prog 94 #[.int .i64 i, .int .i64 f, .int .i64 m] w fun e w' => e = .returned (.int .i64 q) ∧ Ext w w' := by
  cases hm : mayB f m
  · obtain rfl : 2 = q := by rw [hm] at hq; simpa using hq
    have HM := Lib.hid hm
    clear hm hq
    go_enter Tryd.func94, Tryd.ntmps94
    go_wp2_with fail
    refine (field_may false HM.out).mono ?_
    rintro e w1000 ⟨rfl, rfl⟩
    go_wp2_with fail
    go_ret
    exact ⟨rfl, Ext.refl _⟩
  · obtain rfl : 0 = q := by rw [hm] at hq; simpa using hq
    have HM := Lib.hid hm
    clear hm hq
    go_enter Tryd.func94, Tryd.ntmps94
    go_wp2_with fail
    refine (field_may true HM.out).mono ?_
    rintro e w1000 ⟨rfl, rfl⟩
    go_wp2_with fail
    go_ret
    exact ⟨rfl, Ext.refl _⟩

theorem allR_no0 {xs : List Int} (h : xs.length = 0) : allR xs = (0, 2) := by unfold allR wokB; rw [if_neg (by simp [h])]
theorem allR_yes {xs : List Int} (h : Wok xs) : allR xs = (fr xs xs.length, 0) := by unfold allR; rw [if_pos (wokB_iff.2 h)]
theorem allR_no {xs : List Int} (h : ¬ Wok xs) : allR xs = (0, 2) := by unfold allR; rw [if_neg fun c => h (wokB_iff.1 c)]

/-- Widths that may be ahead of field n. -/
theorem fr_upto {xs : List Int} {n : Nat} (h : ∀ i, i < n → mayB (fr xs i) (nth xs i) = true) : ∀ i, i ≤ n → 0 ≤ fr xs i ∧ fr xs i ≤ 64
  | 0, _ => ⟨Int.le_refl _, by unfold fr; decide⟩
  | i + 1, hi => by
    have := mayB_iff.1 (h i (by omega))
    unfold fr; omega

set_option maxHeartbeats 1000000 in
theorem field_all {a : Option Addr} {cap : Nat} (xs : List Int) (p q : Int) {w : World} (hpq : allR xs = (p, q)) (h : At .i64 w a xs) (hl : xs.length ≤ maxLen) :
    Calls Tryd.prog 83 #[.slice a xs.length cap] w fun e w' => e = .returned (.tuple #[.int .i64 p, .int .i64 q]) ∧ Ext w w' := by
  by_cases h0 : xs.length = 0
  · rw [allR_no0 h0] at hpq
    cases hpq
    have h0' : ((xs.length : Int) == 0) = true := by simp [h0]
    clear h h0
    go_enter Tryd.func83, Tryd.ntmps83
    go_wp2_with fail
    go_ret2
    exact ⟨rfl, Ext.refl _⟩
  · have h0' : ((xs.length : Int) == 0) = false := by simpa using h0
    have H := Lib.hid h; clear h
    rcases first_bad (fun i => mayB (fr xs i) (nth xs i)) xs.length with hb | ⟨n, hn, hb, hbn⟩
    · have wk : Wok xs := ⟨by omega, hb⟩
      rw [allR_yes wk] at hpq
      cases hpq
      have CC := Lib.hid (field_each_ok (cap := cap) (cs := #[]) xs _ (fun _ w' => Ext w w') hl (fun i w' hw => H.out.ext hw)
        (fun i w' hi hw => (field_all1 0 (by rw [if_pos (hb i hi)])).mono fun _ _ ⟨he, hx⟩ => ⟨he, hw.trans hx⟩) wk.fr0 (Ext.refl w) enters_all1 rfl)
      clear wk hb h0
      generalize fr xs xs.length = s at *
      go_enter Tryd.func83, Tryd.ntmps83
      go_wp2_with fail
      refine CC.out.mono ?_
      rintro e w1 ⟨rfl, hw1⟩
      go_wp2_with fail
      go_ret2
      exact ⟨rfl, hw1⟩
    · rw [allR_no (fun c => by have := c.may n hn; rw [hbn] at this; cases this)] at hpq
      cases hpq
      have CC := Lib.hid (field_each_err (cap := cap) (cs := #[]) xs n 2 (fun _ w' => Ext w w') hl (fun i w' hw => H.out.ext hw) hn (by decide)
        (fun i w' hi hw => (field_all1 _ (by
          show _ = (if i = n then (2 : Int) else 0)
          by_cases hin : i = n
          · subst hin; rw [if_pos rfl, if_neg (by rw [hbn]; decide)]
          · rw [if_neg hin, if_pos (hb i (by omega))])).mono fun _ _ ⟨he, hx⟩ => ⟨he, hw.trans hx⟩) (fr_upto hb) (Ext.refl w) enters_all1)
      clear hb hbn h0
      go_enter Tryd.func83, Tryd.ntmps83
      go_wp2_with fail
      refine CC.out.mono ?_
      rintro e w1 ⟨rfl, hw1⟩
      go_wp2_with fail
      go_ret2
      exact ⟨rfl, hw1⟩

/-! ### Pack -/
/-- What field.Pack's road knows of a world: all old things are as they were; the box of the values; the word so far. -/
structure PackW (w W : World) (bw bv : Nat) (a : Option Addr) (n cap : Nat) (u : Int) : Prop where
  ext : Ext w W
  vals : W.cell? ⟨bv, 0, none⟩ = some (.slice a n cap)
  word : W.cell? ⟨bw, 0, none⟩ = some (.int .u64 u)
  fz : W.frozen? ⟨bw, 0, none⟩ = false
  above : w.heap.size ≤ bw
  ne : bv ≠ bw
theorem PackW.go {w W W' : World} {bw bv : Nat} {a : Option Addr} {n cap : Nat} {u : Int} (h : PackW w W bw bv a n cap u) (hx : Ext W W') : PackW w W' bw bv a n cap u :=
  ⟨h.ext.trans hx, hx.cell h.vals, hx.cell h.word, hx.frozenAt h.word h.fz, h.above, h.ne⟩
theorem PackW.store {w W : World} {bw bv : Nat} {a : Option Addr} {n cap : Nat} {u : Int} (h : PackW w W bw bv a n cap u) (p : Int) : PackW w (W.setCell ⟨bw, 0, none⟩ (.int .u64 p)) bw bv a n cap p := by
  refine ⟨h.ext.setCell h.above _, ?_, ?_, by simpa using h.fz, h.above, h.ne⟩
  · have := h.ne
    exact (cell_far W _ _ _ (by show bw ≠ bv; omega)).trans h.vals
  · exact World.cell?_setCell_same W _ _ h.word

set_option maxHeartbeats 2000000 in
theorem field_Pack1 {w W : World} {bw bv : Nat} {a : Option Addr} {cap : Nat} (vs : List Int) (i : Nat) {f m : Int} (u p q : Int) (hp : PackW w W bw bv a vs.length cap u) (h0 : 0 ≤ u) (h1 : u < 18446744073709551616)
    (hv : 0 ≤ nth vs i ∧ nth vs i < 18446744073709551616) (hpq : gset u f m (nth vs i) = (p, q)) (h : At .u64 w a vs) (hi : i < vs.length) (hl : vs.length ≤ maxLen) :
    Calls Tryd.prog 97 #[.int .i64 i, .int .i64 f, .int .i64 m, .pointer (some ⟨bw, 0, none⟩), .pointer (some ⟨bv, 0, none⟩)] W fun e W' => e = .returned (.int .i64 q) ∧ PackW w W' bw bv a vs.length cap p := by
  unfold maxLen at hl
  obtain ⟨b, o, rfl, hc⟩ := h.pos (by omega)
  have hci := hp.ext.cell (hc i hi)
  have c1 := hp.vals; have c2 := hp.word; have c3 := hp.fz
  have HP := Lib.hid hp; have HQ := Lib.hid hpq; have HV := Lib.hid hv.2; have HU := Lib.hid h1; have HV0 := hv.1
  clear hc h hp hpq hv h1
  have hi0 : (0 : Int) ≤ (i : Int) := Int.natCast_nonneg _
  have hi1 : (i : Int) < (vs.length : Int) := by omega
  generalize nth vs i = v at *
  go_enter Tryd.func97, Tryd.ntmps97
  go_wp2_with fail
  go_region_with (go_at_call 98; refine (field_Set p q h0 HU.out HV0 HV.out HQ.out).mono ?_; rintro e w1 ⟨rfl, hE⟩; have hX := Ext.trans ((Ext.refl W).drew) hE; have P1 := Lib.hid (HP.out.go hX); have d2 := P1.out.word; have d3 := P1.out.fz)
  all_goals
    go_wp2_with fail
    go_ret
    exact ⟨rfl, P1.out.store _⟩

end Go.Proofs.YtnbngcagnchkdaaDoor

/-! field.Pack, Unpack. -/
namespace Go.Proofs.YtnbngcagnchkdaaDoor
open Go.RowKit

theorem packR_bad {xs vs : List Int} (h : ¬ Wok xs) : packR xs vs = (0, 2) := by unfold packR; rw [if_neg fun c => h (wokB_iff.1 c.1)]
theorem packR_len {xs vs : List Int} (h : vs.length ≠ xs.length) : packR xs vs = (0, 2) := by unfold packR; rw [if_neg fun c => h c.2]
theorem packR_ok {xs vs : List Int} (h : Wok xs) (hl : vs.length = xs.length) (hf : ∀ i, i < xs.length → fitsB (nth vs i) (nth xs i) = true) : packR xs vs = (((pk xs vs xs.length : Nat) : Int), 0) := by
  unfold packR; rw [if_pos ⟨wokB_iff.2 h, hl⟩, if_pos (by unfold allFits; simpa using hf)]
theorem packR_four {xs vs : List Int} (h : Wok xs) (hl : vs.length = xs.length) {n : Nat} (hn : n < xs.length) (hf : fitsB (nth vs n) (nth xs n) = false) : packR xs vs = (0, 4) := by
  unfold packR
  rw [if_pos ⟨wokB_iff.2 h, hl⟩, if_neg]
  unfold allFits
  simp only [decide_eq_true_eq]
  intro c
  have := c n hn
  rw [hf] at this; cases this

set_option maxHeartbeats 2000000 in
theorem field_Pack {a b : Option Addr} {ca cb : Nat} (xs vs : List Int) (p q : Int) {w : World} (hpq : packR xs vs = (p, q)) (h : At .i64 w a xs) (hl : xs.length ≤ maxLen) (hv : At .u64 w b vs) (hvl : vs.length ≤ maxLen)
    (hvb : ∀ n ∈ vs, 0 ≤ n ∧ n < 18446744073709551616) :
    Calls Tryd.prog 89 #[.slice a xs.length ca, .slice b vs.length cb] w fun e w' => e = .returned (.tuple #[.int .u64 p, .int .i64 q]) ∧ Ext w w' := by
  have hx := (Ext.refl w).alloc (.cells #[.slice b vs.length cb] 56)
  have H := Lib.hid h; have HV := Lib.hid hv; have HB := Lib.hid hvb; have HL := Lib.hid hl; have HVL := Lib.hid hvl
  have hl2 := hl; have hvl2 := hvl
  unfold maxLen at hl2 hvl2
  clear h hv hvb hl hvl
  by_cases wk : Wok xs
  · have WK := Lib.hid wk
    have HA := Lib.hid (allR_yes wk)
    by_cases hlen : vs.length = xs.length
    · have hc0 : ∀ w1 : World, Ext (w.alloc (.cells #[.slice b vs.length cb] 56)) w1 → PackW w (w1.alloc (.cells #[.int .u64 0] 26)) w1.heap.size w.heap.size b vs.length cb 0 := by
        intro w1 h1
        have := h1.size
        simp at this
        exact ⟨(hx.trans h1).alloc _, cell_alloc (h1.cell (cell_new1 _ _ _)) _, cell_new1 _ _ _, World.frozen?_alloc_at _ _ _ _ rfl, by omega, by omega⟩
      have HC := Lib.hid hc0
      have HLEN := Lib.hid hlen
      have hlenb : (vs.length != xs.length) = false := by simp [hlen]
      have hlenc : ((vs.length : Int) != (xs.length : Int)) = false := by simp [hlen]
      rcases first_bad (fun i => fitsB (nth vs i) (nth xs i)) xs.length with hf | ⟨n, hn, hf, hfn⟩
      · rw [packR_ok wk hlen hf] at hpq
        cases hpq
        have HF := Lib.hid hf
        clear wk hc0 hf hlen
        generalize hs : fr xs xs.length = s at *
        have HS := Lib.hid hs; clear hs
        go_enter Tryd.func89, Tryd.ntmps89
        go_wp2_with fail
        refine (field_all xs _ _ HA.out (H.out.ext hx) HL.out).mono ?_
        rintro e w1 ⟨rfl, h1⟩
        have P0 := Lib.hid (HC.out w1 h1)
        have c1 := h1.cell (cell_new1 w (.slice b vs.length cb) 56)
        go_wp2_with fail
        refine (field_each_ok xs s (fun i W => PackW w W w1.heap.size w.heap.size b vs.length cb ((pk xs vs i : Nat) : Int)) HL.out (fun i W hW => H.out.ext hW.ext)
          (fun i W hi hW => by
            have h64 := of64 (pk_64 WK.out i (by omega) fun j hj => HF.out j (by omega))
            exact field_Pack1 vs i _ _ _ hW h64.1 h64.2 (HB.out _ (nth_mem (by have := HLEN.out; omega))) (gset_pk WK.out i hi fun j hj => HF.out j (by omega)) HV.out (by have := HLEN.out; omega) HVL.out)
          WK.out.fr0 P0.out enters_Pack1 HS.out).mono ?_
        rintro e w2 ⟨rfl, hW⟩
        have c2 := hW.word
        have HW := Lib.hid hW
        clear hW
        go_wp2_with fail
        go_ret2
        exact ⟨rfl, HW.out.ext⟩
      · rw [packR_four wk hlen hn hfn] at hpq
        cases hpq
        have HF := Lib.hid hf; have HFN := Lib.hid hfn
        clear wk hc0 hf hfn hlen
        go_enter Tryd.func89, Tryd.ntmps89
        go_wp2_with fail
        refine (field_all xs _ _ HA.out (H.out.ext hx) HL.out).mono ?_
        rintro e w1 ⟨rfl, h1⟩
        have P0 := Lib.hid (HC.out w1 h1)
        have c1 := h1.cell (cell_new1 w (.slice b vs.length cb) 56)
        go_wp2_with fail
        refine (field_each_err xs n 4 (fun i W => PackW w W w1.heap.size w.heap.size b vs.length cb (if i ≤ n then ((pk xs vs i : Nat) : Int) else 0)) HL.out (fun i W hW => H.out.ext hW.ext) hn (by decide)
          (fun i W hi hW => by
            have hW' : PackW w W w1.heap.size w.heap.size b vs.length cb ((pk xs vs i : Nat) : Int) := by
              change PackW w W w1.heap.size w.heap.size b vs.length cb (if i ≤ n then ((pk xs vs i : Nat) : Int) else 0) at hW
              rwa [if_pos (by omega)] at hW
            have h64 := of64 (pk_64 WK.out i (by omega) fun j hj => HF.out j (by omega))
            by_cases hin : i = n
            · subst hin
              refine (field_Pack1 vs i _ _ _ hW' h64.1 h64.2 (HB.out _ (nth_mem (by have := HLEN.out; omega))) (gset_pk_no WK.out i (by omega) HFN.out _) HV.out (by have := HLEN.out; omega) HVL.out).mono fun e W' ⟨he, hP⟩ => ⟨he.trans (ret_int (if_pos rfl).symm), ?_⟩
              show PackW w W' w1.heap.size w.heap.size b vs.length cb (if i + 1 ≤ i then ((pk xs vs (i + 1) : Nat) : Int) else 0)
              rwa [if_neg (by omega)]
            · refine (field_Pack1 vs i _ _ _ hW' h64.1 h64.2 (HB.out _ (nth_mem (by have := HLEN.out; omega))) (gset_pk WK.out i (by omega) fun j hj => HF.out j (by omega)) HV.out (by have := HLEN.out; omega) HVL.out).mono fun e W' ⟨he, hP⟩ => ⟨he.trans (ret_int (if_neg hin).symm), ?_⟩
              show PackW w W' w1.heap.size w.heap.size b vs.length cb (if i + 1 ≤ n then ((pk xs vs (i + 1) : Nat) : Int) else 0)
              rwa [if_pos (by omega)])
          (fun i hi => WK.out.fr0 i (by omega)) (show PackW w _ w1.heap.size w.heap.size b vs.length cb (if 0 ≤ n then ((pk xs vs 0 : Nat) : Int) else 0) by rw [if_pos (Nat.zero_le _)]; exact P0.out) enters_Pack1).mono ?_
        rintro e w2 ⟨rfl, hW⟩
        change PackW w w2 w1.heap.size w.heap.size b vs.length cb (if n + 1 ≤ n then ((pk xs vs (n + 1) : Nat) : Int) else 0) at hW
        rw [if_neg (by omega)] at hW
        have c2 := hW.word
        have HW := Lib.hid hW
        clear hW
        go_wp2_with fail
        go_ret2
        exact ⟨rfl, HW.out.ext⟩
    · rw [packR_len hlen] at hpq
      cases hpq
      have hlenb : (vs.length != xs.length) = true := by simpa using hlen
      have hlenc : ((vs.length : Int) != (xs.length : Int)) = true := by simp; omega
      clear wk hlen
      generalize hs : fr xs xs.length = s at *
      clear hs
      go_enter Tryd.func89, Tryd.ntmps89
      go_wp2_with fail
      refine (field_all xs _ _ HA.out (H.out.ext hx) HL.out).mono ?_
      rintro e w1 ⟨rfl, h1⟩
      have c1 := h1.cell (cell_new1 w (.slice b vs.length cb) 56)
      go_wp2_with fail
      go_ret2
      exact ⟨rfl, hx.trans h1⟩
  · have HA := Lib.hid (allR_no wk)
    rw [packR_bad wk] at hpq
    cases hpq
    clear wk
    go_enter Tryd.func89, Tryd.ntmps89
    go_wp2_with fail
    refine (field_all xs _ _ HA.out (H.out.ext hx) HL.out).mono ?_
    rintro e w1 ⟨rfl, h1⟩
    go_wp2_with fail
    go_ret2
    exact ⟨rfl, hx.trans h1⟩

end Go.Proofs.YtnbngcagnchkdaaDoor

/-! field.Unpack. -/
namespace Go.Proofs.YtnbngcagnchkdaaDoor
open Go.RowKit

theorem info_u64 : (Tryd.prog.info? 26).map (fun i => (i.zero, i.size, i.bytes)) = some (some (.int .u64 0), 1, 8) := by kernel_rfl

/-- What field.Unpack's road knows of a world: all old things are as they were; the word; the values so far, in a row of its own. -/
structure UnpW (w W : World) (bw bo : Nat) (u : Int) (l : List Int) : Prop where
  ext : Ext w W
  word : W.cell? ⟨bw, 0, none⟩ = some (.int .u64 u)
  out : ∃ sv, W.cell? ⟨bo, 0, none⟩ = some sv ∧ W.ownsRow (bo + 1) 26 1 sv l.length (ncs .u64 l)
  fz : W.frozen? ⟨bo, 0, none⟩ = false
  above : w.heap.size ≤ bo
  lt : bw < bo

set_option maxHeartbeats 2000000 in
theorem field_Unpack1 {w W : World} {bw bo : Nat} {u : Int} (l : List Int) {i f m : Int} (p q : Int) (hp : UnpW w W bw bo u l) (h0 : 0 ≤ u) (h1 : u < 18446744073709551616) (hpq : gget u f m = (p, q)) (hl : l.length ≤ 1000) :
    Calls Tryd.prog 86 #[.int .i64 i, .int .i64 f, .int .i64 m, .pointer (some ⟨bw, 0, none⟩), .pointer (some ⟨bo, 0, none⟩)] W fun e W' => e = .returned (.int .i64 q) ∧ UnpW w W' bw bo u (l ++ [p]) := by
  obtain ⟨i0, hi0, hz0, hz1, hz2⟩ := info_parts info_u64
  obtain ⟨sv, hc, hown⟩ := hp.out
  have c1 := hp.word
  have HP := Lib.hid hp; have HQ := Lib.hid hpq; have HU := Lib.hid h1; have HO := Lib.hid hown; have HC := Lib.hid hc
  clear hp hpq h1 hown hc
  have hm63 : l.length + 1 ≤ maxLen := by unfold maxLen; omega
  have HM := Lib.hid hm63; clear hm63
  go_enter Tryd.func86, Tryd.ntmps86
  go_wp2_with fail
  refine (field_Get p q h0 HU.out HQ.out).mono ?_
  rintro e w1 ⟨rfl, hx⟩
  have c2 := hx.cell HC.out
  have f2 : w1.frozen? ⟨bo, 0, none⟩ = false := hx.frozenAt HC.out HP.out.fz
  have hown1 := own_ext HO.out hx
  have hsz : bo < w1.heap.size := cell_lt c2
  have HO1 := Lib.hid hown1; clear hown1
  have HNE := Lib.hid (show some bo ≠ sv.ownBlock from fun e => by have := (HO1.out.lt _ e.symm).1; omega)
  clear c1
  go_wp2_with (at_builtin; refine wpList_append_lies _ rfl (.tmp 18) (.tmp 20) 56 rfl (bo + 1) 26 i0 (.int .u64 0) 1 8 Tryd.underlying56 hi0 hz0 hz1 hz2 rfl (by decide) sv l.length (ncs .u64 l) rfl (HO1.out.alloc _) ⟨w1.heap.size, 0, none⟩ 1 1 [.int .u64 p] rfl rfl (news1 _ _ _) (one1 rfl) (by omega) HM.out (by omega) (by simp; omega) (w1.heap.size + 1) (by simp) ?_; intro g cap w2 hown2 hgrow hat hlt; have c3 := grow_cell hgrow ((Ext.refl w1).alloc _) c2 HNE.out; have f3 := grow_frozen hgrow ((Ext.refl w1).alloc _) c2 f2 HNE.out; have HW := Lib.hid hown2; have HG := Lib.hid hgrow; clear hown2 hgrow hat hlt)
  go_ret
  have hx2 : Ext w w2 := ((HP.out.ext.trans hx).alloc _).grown HG.out fun k e => by have := (HO1.out.lt _ e).1; have := HP.out.above; omega
  have ho2 : w2.ownsRow (bo + 1) 26 1 (.slice (some ⟨g, 0, none⟩) (l.length + 1) cap) (l ++ [p]).length (ncs .u64 (l ++ [p])) := by
    have := HW.out
    rw [ncs_snoc] at this
    simpa using this
  refine ⟨rfl, ⟨hx2.setCell HP.out.above _, ?_, ⟨_, World.cell?_setCell_same w2 _ _ c3, own_setCell ho2 (Nat.lt_succ_self bo) _⟩, by simpa using f3, HP.out.above, HP.out.lt⟩⟩
  rw [cell_far _ _ _ _ (by have := HP.out.lt; show bo ≠ bw; omega), HG.out.cell_far _ (by have := HP.out.lt; simp; omega) (fun e => by have h1 : bo + 1 ≤ bw := (HO1.out.lt bw e.symm).1; have := HP.out.lt; omega)]
  exact cell_alloc (hx.cell HP.out.word) _

theorem unpackR_bad1 {xs : List Int} {u : Int} (h : ¬ Wok xs) : unpackR xs u = ([], 2) := by unfold unpackR; rw [if_neg fun c => h (wokB_iff.1 c)]
theorem unpackR_five {xs : List Int} {u : Int} (h : Wok xs) (hf : fitsB u (fr xs xs.length) = false) : unpackR xs u = ([], 5) := by unfold unpackR; rw [if_pos (wokB_iff.2 h), if_neg (by rw [hf]; decide)]
theorem unpackR_yes {xs : List Int} {u : Int} (h : Wok xs) (hf : fitsB u (fr xs xs.length) = true) : unpackR xs u = (unp xs u xs.length, 0) := by unfold unpackR; rw [if_pos (wokB_iff.2 h), if_pos hf]

/-- A row of words is handed back, beside a number. -/
def Words2 (l : List Int) (q : Int) (w : World) (e : Ending) (w' : World) : Prop := ∃ a cap, e = .returned (.tuple #[.slice a l.length cap, .int .i64 q]) ∧ NewInts .u64 w w' a cap l ∧ Ext w w'
theorem Words2.nil {q : Int} {w w' : World} (hx : Ext w w') : Words2 [] q w (.returned (.tuple #[.slice none 0 0, .int .i64 q])) w' :=
  ⟨none, 0, rfl, ⟨At.nil, Nat.le_refl _, Nat.zero_le _, fun h => absurd h (Nat.lt_irrefl 0)⟩, hx⟩

set_option maxHeartbeats 2000000 in
theorem field_Unpack {a : Option Addr} {ca : Nat} (xs : List Int) (u : Int) (l : List Int) (q : Int) {w : World} (hpq : unpackR xs u = (l, q)) (h : At .i64 w a xs) (hl : xs.length ≤ maxLen) (h0 : 0 ≤ u) (h1 : u < 18446744073709551616) :
    Calls Tryd.prog 61 #[.slice a xs.length ca, .int .u64 u] w (Words2 l q w) := by
  have hx := (Ext.refl w).alloc (.cells #[.int .u64 u] 26)
  have H := Lib.hid h; have HL := Lib.hid hl; have HU := Lib.hid h1
  have hl2 := hl
  unfold maxLen at hl2
  clear h hl h1
  by_cases wk : Wok xs
  · have WK := Lib.hid wk
    have HA := Lib.hid (allR_yes wk)
    have hfr := wk.fr0 xs.length (Nat.le_refl _)
    have hpos := wk.pos
    have hmany := wk.many xs.length (Nat.le_refl _)
    have hl64 := wk.le64
    obtain ⟨n, hn⟩ : ∃ n : Int, (Lib.bitLen u.toNat : Int) = n := ⟨_, rfl⟩
    have ht := len_test (m := fr xs xs.length) h0 HU.out (by omega) hfr.2
    rw [hn] at ht
    have HN := Lib.hid hn; clear hn
    cases hf : fitsB u (fr xs xs.length)
    · rw [unpackR_five wk hf] at hpq
      cases hpq
      rw [hf] at ht
      replace ht : fr xs xs.length < n := by simpa using ht
      clear wk hf
      generalize fr xs xs.length = s at *
      go_enter Tryd.func61, Tryd.ntmps61
      go_wp2_with fail
      refine (field_all xs _ _ HA.out (H.out.ext hx) HL.out).mono ?_
      rintro e w1 ⟨rfl, h1⟩
      have c1 := h1.cell (cell_new1 w (.int .u64 u) 26)
      go_wp2_with fail
      refine (bits_Len64 _ n _ h0 HU.out HN.out).mono ?_
      rintro e w1000 ⟨rfl, rfl⟩
      go_wp2_with fail
      go_ret2
      exact Words2.nil (hx.trans h1)
    · rw [unpackR_yes wk hf] at hpq
      cases hpq
      rw [hf] at ht
      replace ht : n ≤ fr xs xs.length := by simpa using ht
      have hc0 : ∀ w1 : World, Ext (w.alloc (.cells #[.int .u64 u] 26)) w1 → UnpW w (w1.alloc (.cells #[.slice none 0 0] 56)) w.heap.size w1.heap.size u (unp xs u 0) := by
        intro w1 h1
        have := h1.size
        simp at this
        exact ⟨(hx.trans h1).alloc _, cell_alloc (h1.cell (cell_new1 _ _ _)) _, ⟨_, cell_new1 _ _ _, World.ownsRow_nil _ _ _ _⟩, World.frozen?_alloc_at _ _ _ _ rfl, by omega, by omega⟩
      have HC := Lib.hid hc0
      clear wk hf hc0
      generalize hs : fr xs xs.length = s at *
      have HS := Lib.hid hs; clear hs
      go_enter Tryd.func61, Tryd.ntmps61
      go_wp2_with fail
      refine (field_all xs _ _ HA.out (H.out.ext hx) HL.out).mono ?_
      rintro e w1 ⟨rfl, h1⟩
      have c1 := h1.cell (cell_new1 w (.int .u64 u) 26)
      have P0 := Lib.hid (HC.out w1 h1)
      have S1 := Lib.hid h1.size
      go_wp2_with fail
      refine (bits_Len64 _ n _ h0 HU.out HN.out).mono ?_
      rintro e w1000 ⟨rfl, rfl⟩
      go_wp2_with fail
      refine (field_each_ok xs s (fun i W => UnpW w W w.heap.size w1.heap.size u (unp xs u i)) HL.out (fun i W hW => H.out.ext hW.ext)
        (fun i W hi hW => by
          have := field_Unpack1 (unp xs u i) (i := (i : Int)) _ _ hW h0 HU.out (gget_at WK.out i hi u) (by rw [unp_len]; omega)
          rw [← unp_succ] at this
          exact this)
        WK.out.fr0 P0.out enters_Unpack1 HS.out).mono ?_
      rintro e w2 ⟨rfl, hW⟩
      obtain ⟨sv, c2, ho⟩ := hW.out
      rw [unp_len] at ho
      obtain ⟨g, cap, rfl, g1, g2, g3, g4, g5, g6, g7⟩ := own_ints ho hpos
      have HW := Lib.hid hW; have G6 := Lib.hid g6; have G7 := Lib.hid g7; have G3 := Lib.hid g3
      clear hW ho g6 g7 g3
      go_wp2_with fail
      go_ret2
      refine ⟨_, cap, ?_, ⟨G6.out, by rw [unp_len]; exact g4, g5, fun _ => ⟨g, rfl, ?_, g2, G7.out⟩⟩, HW.out.ext⟩
      · rw [unp_len]; rfl
      · have := HW.out.above; omega
  · have HA := Lib.hid (allR_no wk)
    rw [unpackR_bad1 wk] at hpq
    cases hpq
    clear wk
    go_enter Tryd.func61, Tryd.ntmps61
    go_wp2_with fail
    refine (field_all xs _ _ HA.out (H.out.ext hx) HL.out).mono ?_
    rintro e w1 ⟨rfl, h1⟩
    go_wp2_with fail
    go_ret2
    exact Words2.nil (hx.trans h1)

end Go.Proofs.YtnbngcagnchkdaaDoor

/-! head.may, packed, Put, Get, Need, Field: each hands back what its plain function computes, and leaves all that there was as it was. Wid: the package variable head.widths holds its numbers. -/
namespace Go.Proofs.YtnbngcagnchkdaaDoor
open Go.RowKit

/-- The package variable's five cells. -/
def Wid (w : World) : Prop :=
  w.cell? ⟨0, 0, none⟩ = some (.int .i64 16) ∧ w.cell? ⟨0, 1, none⟩ = some (.int .i64 16) ∧ w.cell? ⟨0, 2, none⟩ = some (.int .i64 16) ∧ w.cell? ⟨0, 3, none⟩ = some (.int .i64 8) ∧ w.cell? ⟨0, 4, none⟩ = some (.int .i64 8)
theorem Wid.ext {w w' : World} (h : Wid w) (hx : Ext w w') : Wid w' :=
  ⟨hx.cell h.1, hx.cell h.2.1, hx.cell h.2.2.1, hx.cell h.2.2.2.1, hx.cell h.2.2.2.2⟩

/-- The three cells of a box, still there. -/
theorem hbox {w w1 : World} {v0 v1 v2 : Value} {t : TypeId} (hx : Ext (w.alloc (.cells #[v0, v1, v2] t)) w1) :
    w1.cell? ⟨w.heap.size, 0, none⟩ = some v0 ∧ w1.cell? ⟨w.heap.size, 1, none⟩ = some v1 ∧ w1.cell? ⟨w.heap.size, 2, none⟩ = some v2 :=
  ⟨hx.cell (cell_newN w _ t 0), hx.cell (cell_newN w _ t 1), hx.cell (cell_newN w _ t 2)⟩

theorem hd_cases (c r w : Int) : (hdok ⟨c, r, w⟩ ∧ 0 ≤ c ∧ c < 8 ∧ 0 ≤ r ∧ 0 ≤ w ∧ r ≤ 63 ∧ w ≤ 63 - r) ∨ (¬ hdok ⟨c, r, w⟩ ∧ (c < 0 ∨ (0 ≤ c ∧ 8 ≤ c) ∨ (0 ≤ c ∧ c < 8 ∧ r < 0) ∨ (0 ≤ c ∧ c < 8 ∧ 0 ≤ r ∧ w < 0) ∨ (0 ≤ c ∧ c < 8 ∧ 0 ≤ r ∧ 0 ≤ w ∧ 63 < r) ∨ (0 ≤ c ∧ c < 8 ∧ 0 ≤ r ∧ 0 ≤ w ∧ r ≤ 63 ∧ 63 - r < w))) := by
  unfold hdok
  simp only
  omega

set_option maxHeartbeats 4000000 in
theorem head_may (h : Hd) (b : Bool) {w : World} (hb : decide (hdok h) = b) :
    Calls Tryd.prog 62 #[.agg #[.int .i64 h.c, .int .i64 h.r, .int .i64 h.w]] w fun e w' => e = .returned (.bool b) ∧ Ext w w' := by
  have hx := (Ext.refl w).alloc (.cells #[.int .i64 h.c, .int .i64 h.r, .int .i64 h.w] 28)
  obtain ⟨c, r, q⟩ := h
  simp only at hx ⊢
  have k := hd_cases c r q
  rcases k with ⟨k, k1, k2, k3, k4, k5, k6⟩ | ⟨k, h | ⟨h1, h2⟩ | ⟨h1, h2, h3⟩ | ⟨h1, h2, h3, h4⟩ | ⟨h1, h2, h3, h4, h5⟩ | ⟨h1, h2, h3, h4, h5, h6⟩⟩
  · have HB := Lib.hid (show true = b by rw [← hb, decide_eq_true k])
    clear hb k
    go_enter Tryd.func62, Tryd.ntmps62
    go_wp2_with fail
    all_goals go_ret
    all_goals first | exact ⟨ret_bool HB.out, hx⟩ | exact ⟨ret_bool ((decide_eq_false (by omega)).trans HB.out), hx⟩ | exact ⟨ret_bool ((decide_eq_true (by omega)).trans HB.out), hx⟩
  all_goals
    have HB := Lib.hid (show false = b by rw [← hb, decide_eq_false k])
    clear hb k
    go_enter Tryd.func62, Tryd.ntmps62
    go_wp2_with fail
    all_goals go_ret
    all_goals first | exact ⟨ret_bool HB.out, hx⟩ | exact ⟨ret_bool ((decide_eq_false (by omega)).trans HB.out), hx⟩ | exact ⟨ret_bool ((decide_eq_true (by omega)).trans HB.out), hx⟩

set_option maxHeartbeats 4000000 in
theorem head_packed {a : Option Addr} {cap : Nat} (h : Hd) {w : World} (hk : hdok h) (hW : Wid w) (hA : At .u64 w a [0, h.w, h.r, h.c, 199]) :
    Calls Tryd.prog 67 #[.slice a 5 cap] w fun e w' => e = .returned (.int .u64 (hdword h)) ∧ Ext w w' := by
  have PK := Lib.hid (hdput_pack hk)
  have HA := Lib.hid hA; clear hA
  obtain ⟨g0, g1, g2, g3, g4⟩ := hW
  have HB : Hid (∀ n ∈ [0, h.w, h.r, h.c, 199], 0 ≤ n ∧ n < 18446744073709551616) := Lib.hid (by
    obtain ⟨⟨k1, k2⟩, k3, k4, k5, k6⟩ := hk
    intro n hn; simp at hn; rcases hn with rfl | rfl | rfl | rfl | rfl <;> omega)
  have M5 : Hid ([0, h.w, h.r, h.c, 199].length ≤ maxLen) := Lib.hid (show 5 ≤ maxLen by decide)
  clear hk
  go_enter Tryd.func67, Tryd.ntmps67
  go_wp2_with fail
  have h1 := (Ext.refl w).alloc (.cells #[.int .i64 16, .int .i64 16, .int .i64 16, .int .i64 8, .int .i64 8] 114)
  have HW := Lib.hid (At.newb .i64 w hdws 114 _ rfl)
  clear g0 g1 g2 g3 g4
  refine (field_Pack hdws _ _ 0 PK.out HW.out (by decide) (HA.out.ext h1) M5.out HB.out).mono ?_
  rintro e w1 ⟨rfl, h2⟩
  go_wp2_with fail
  go_ret
  exact ⟨rfl, h1.trans h2⟩

set_option maxHeartbeats 4000000 in
theorem head_Put (h : Hd) (p q : Int) {w : World} (hpq : hdput h = (p, q)) (hW : Wid w) :
    Calls Tryd.prog 38 #[.agg #[.int .i64 h.c, .int .i64 h.r, .int .i64 h.w]] w fun e w' => e = .returned (.tuple #[.int .u64 p, .int .i64 q]) ∧ Ext w w' := by
  have hx := (Ext.refl w).alloc (.cells #[.int .i64 h.c, .int .i64 h.r, .int .i64 h.w] 28)
  have h1 := Ext.refl (w.alloc (.cells #[.int .i64 h.c, .int .i64 h.r, .int .i64 h.w] 28))
  have HW := Lib.hid hW; clear hW
  by_cases hk : hdok h
  · have E := Lib.hid (show (hdword h, 0) = (p, q) by rw [← hpq, hdput_yes hk])
    have HB := Lib.hid (show decide (hdok h) = true from decide_eq_true hk)
    have HK := Lib.hid hk
    obtain ⟨⟨k1, k2⟩, k3, k4, k5, k6⟩ := hk
    clear hpq
    go_enter Tryd.func38, Tryd.ntmps38
    go_wp2_with fail
    refine (head_may h true HB.out).mono ?_
    rintro e w1 ⟨rfl, h2⟩
    replace h1 := h1.trans h2
    obtain ⟨b0, b1, b2⟩ := hbox h1
    go_wp2_with fail
    have HA := Lib.hid (At.newb .u64 w1 [0, h.w, h.r, h.c, 199] 26 _ rfl)
    refine (head_packed h HK.out (HW.out.ext ((hx.trans h1).alloc _)) HA.out).mono ?_
    rintro e w2 ⟨rfl, h2⟩
    go_wp2_with fail
    go_ret2
    cases E.out
    exact ⟨rfl, ((hx.trans h1).alloc _).trans h2⟩
  · obtain ⟨rfl, rfl⟩ : 0 = p ∧ 2 = q := by rw [hdput_no hk] at hpq; simpa using hpq
    have HB := Lib.hid (show decide (hdok h) = false from decide_eq_false hk)
    clear hpq hk
    go_enter Tryd.func38, Tryd.ntmps38
    go_wp2_with fail
    refine (head_may h false HB.out).mono ?_
    rintro e w1 ⟨rfl, h2⟩
    go_wp2_with fail
    go_ret2
    exact ⟨rfl, hx.trans h2⟩

set_option maxHeartbeats 4000000 in
theorem head_Need (h : Hd) (p q : Int) {w : World} (hpq : hdneed h = (p, q)) :
    Calls Tryd.prog 63 #[.agg #[.int .i64 h.c, .int .i64 h.r, .int .i64 h.w]] w fun e w' => e = .returned (.tuple #[.int .i64 p, .int .i64 q]) ∧ Ext w w' := by
  have hx := (Ext.refl w).alloc (.cells #[.int .i64 h.c, .int .i64 h.r, .int .i64 h.w] 28)
  have h1 := Ext.refl (w.alloc (.cells #[.int .i64 h.c, .int .i64 h.r, .int .i64 h.w] 28))
  by_cases hk : hdok h
  · have E := Lib.hid (show (h.r + h.w + 1, 0) = (p, q) by rw [← hpq]; unfold hdneed; rw [if_pos hk])
    have HB := Lib.hid (show decide (hdok h) = true from decide_eq_true hk)
    obtain ⟨⟨k1, k2⟩, k3, k4, k5, k6⟩ := hk
    clear hpq
    go_enter Tryd.func63, Tryd.ntmps63
    go_wp2_with fail
    refine (head_may h true HB.out).mono ?_
    rintro e w1 ⟨rfl, h2⟩
    replace h1 := h1.trans h2
    obtain ⟨b0, b1, b2⟩ := hbox h1
    go_wp2_with fail
    go_ret2
    cases E.out
    exact ⟨rfl, hx.trans h1⟩
  · obtain ⟨rfl, rfl⟩ : 0 = p ∧ 2 = q := by unfold hdneed at hpq; rw [if_neg hk] at hpq; simpa using hpq
    have HB := Lib.hid (show decide (hdok h) = false from decide_eq_false hk)
    clear hpq hk
    go_enter Tryd.func63, Tryd.ntmps63
    go_wp2_with fail
    refine (head_may h false HB.out).mono ?_
    rintro e w1 ⟨rfl, h2⟩
    go_wp2_with fail
    go_ret2
    exact ⟨rfl, hx.trans h2⟩

set_option maxHeartbeats 4000000 in
theorem head_Field (h : Hd) (i : Int) (p : Bool) (q : Int) {w : World} (hpq : hdfield h i = (p, q)) :
    Calls Tryd.prog 88 #[.agg #[.int .i64 h.c, .int .i64 h.r, .int .i64 h.w], .int .i64 i] w fun e w' => e = .returned (.tuple #[.bool p, .int .i64 q]) ∧ Ext w w' := by
  have hx := (Ext.refl w).alloc (.cells #[.int .i64 h.c, .int .i64 h.r, .int .i64 h.w] 28)
  have h1 := Ext.refl (w.alloc (.cells #[.int .i64 h.c, .int .i64 h.r, .int .i64 h.w] 28))
  by_cases hk : hdok h
  · have HB := Lib.hid (show decide (hdok h) = true from decide_eq_true hk)
    unfold hdfield at hpq
    rw [if_pos hk] at hpq
    obtain ⟨⟨k1, k2⟩, k3, k4, k5, k6⟩ := hk
    by_cases hi : i < 0
    · obtain ⟨rfl, rfl⟩ : false = p ∧ 110 = q := by rw [if_pos (.inl hi)] at hpq; simpa using hpq
      clear hpq
      go_enter Tryd.func88, Tryd.ntmps88
      go_wp2_with fail
      refine (head_may h true HB.out).mono ?_
      rintro e w1 ⟨rfl, h2⟩
      replace h1 := h1.trans h2
      obtain ⟨b0, b1, b2⟩ := hbox h1
      go_wp2_with fail
      go_ret2
      exact ⟨rfl, hx.trans h1⟩
    · have hi0 : 0 ≤ i := by omega
      by_cases hj : h.r + h.w ≤ i
      · obtain ⟨rfl, rfl⟩ : false = p ∧ 110 = q := by rw [if_pos (.inr hj)] at hpq; simpa using hpq
        clear hpq
        go_enter Tryd.func88, Tryd.ntmps88
        go_wp2_with fail
        refine (head_may h true HB.out).mono ?_
        rintro e w1 ⟨rfl, h2⟩
        replace h1 := h1.trans h2
        obtain ⟨b0, b1, b2⟩ := hbox h1
        go_wp2_with fail
        go_ret2
        exact ⟨rfl, hx.trans h1⟩
      · have E := Lib.hid (show (decide (i < h.r), (0 : Int)) = (p, q) by rw [← hpq, if_neg (by omega)])
        clear hpq
        replace hj : i < h.r + h.w := by omega
        go_enter Tryd.func88, Tryd.ntmps88
        go_wp2_with fail
        refine (head_may h true HB.out).mono ?_
        rintro e w1 ⟨rfl, h2⟩
        replace h1 := h1.trans h2
        obtain ⟨b0, b1, b2⟩ := hbox h1
        go_wp2_with fail
        go_ret2
        cases E.out
        exact ⟨rfl, hx.trans h1⟩
  · obtain ⟨rfl, rfl⟩ : false = p ∧ 2 = q := by unfold hdfield at hpq; rw [if_neg hk] at hpq; simpa using hpq
    have HB := Lib.hid (show decide (hdok h) = false from decide_eq_false hk)
    clear hpq hk
    go_enter Tryd.func88, Tryd.ntmps88
    go_wp2_with fail
    refine (head_may h false HB.out).mono ?_
    rintro e w1 ⟨rfl, h2⟩
    go_wp2_with fail
    go_ret2
    exact ⟨rfl, hx.trans h2⟩

end Go.Proofs.YtnbngcagnchkdaaDoor
