/-
  Merged texts: Row, Bits, CloneW, Made, Bits2, Bits3, Next, NextP, Next2.
-/
import Derived.Test.YtlhajoamebfniaaDoorG06
import Derived.Test.YtlhajoamebfniaaDoorProg
import Derived.Test.YtlhajoamebfniaaDoorG01
import Derived.WalkKit
import Derived.WalkSpells
import Derived.WalkLawsBesides
import Derived.Outline
import Derived.BigQuiet
import Derived.Deep.QuietTactic
import Derived.Deep.RegionHeld3
import Derived.RegionTactic
import Derived.BigRegion
import Derived.Laws.BitsAllLaws
import Derived.Test.YtlhajoamebfniaaDoorG03
import Derived.Test.YtlhajoamebfniaaDoorChecked
import Derived.Deep.OwnRows
import Derived.Lib.SliceRun
import Derived.Laws.OwnMore
import Derived.Laws.Bits128
import Derived.Lib.TrailingZeros
import Derived.RangeFuncNested
import Derived.RangeFuncBound
import Derived.RangeFuncCalls
import Derived.RangeFuncLeaves
import Derived.Shelf.Abstract
import Derived.Shelf.RegionOpen
import Derived.OwnWalkIn
import Derived.TacticsInMore
import Derived.LoopNIn
import Derived.LoopIn
import Derived.Stop.RegionWithIn
set_option linter.unusedVariables false
set_option linter.unusedSimpArgs false
/-! Rows of bits in memory; worlds that differ in one block. No program is named here. -/
namespace Go.Proofs.YtlhajoamebfniaaDoor
open Go.RowKit

/-! ### Rows of bits: the box b leads to the words, which lie in block g, if there are any -/
structure RowAt (w : World) (b g : Nat) (bs : List Bool) : Prop where
  ex : ∃ a cap, w.cell? ⟨b, 0, none⟩ = some (.slice a (wlen bs.length) cap) ∧ At .u64 w a (wds bs) ∧ wlen bs.length ≤ cap ∧ cap ≤ maxLen ∧ (0 < bs.length → a = some ⟨g, 0, none⟩ ∧ ∀ o, w.frozen? ⟨g, o, none⟩ = false)
  many : w.cell? ⟨b, 1, none⟩ = some (.int .i64 bs.length)
  made : w.cell? ⟨b, 2, none⟩ = some (.bool true)
  most : bs.length ≤ 65536

/-- The blocks that what is done to a row may turn. -/
def tch (g : Nat) (bs : List Bool) (k : Nat) : Prop := 0 < bs.length ∧ k = g

theorem wlen_pos {n : Nat} (h : 0 < n) : 0 < wlen n := by unfold wlen; omega
theorem RowAt.lt {w : World} {b g : Nat} {bs : List Bool} (h : RowAt w b g bs) : b < w.heap.size := cell_lt h.many
theorem RowAt.glt {w : World} {b g : Nat} {bs : List Bool} (h : RowAt w b g bs) (hb : 0 < bs.length) : g < w.heap.size := by
  obtain ⟨a, cap, _, hA, _, _, hg⟩ := h.ex
  obtain ⟨x, o, e, hc⟩ := hA 0 (by rw [wds_len]; exact wlen_pos hb)
  rw [(hg hb).1] at e; cases e
  exact cell_lt hc
theorem RowAt.apart {w : World} {b g : Nat} {bs : List Bool} (h : RowAt w b g bs) (hb : 0 < bs.length) : g ≠ b := by
  obtain ⟨a, cap, h0, hA, _, _, hg⟩ := h.ex
  obtain ⟨x, o, e, hc⟩ := hA 0 (by rw [wds_len]; exact wlen_pos hb)
  rw [(hg hb).1] at e; cases e
  rintro rfl
  rw [h0] at hc; cases hc
theorem RowAt.chg {P : Nat → Prop} {w w' : World} {b g : Nat} {bs : List Bool} (h : RowAt w b g bs) (hx : Chg P w w') (hb : ¬ P b) (hg : 0 < bs.length → ¬ P g) : RowAt w' b g bs := by
  obtain ⟨a, cap, h0, hA, h1, h2, h3⟩ := h.ex
  refine ⟨⟨a, cap, hx.cell hb h0, hA.chg hx fun b' o e hl => ?_, h1, h2, fun hp => ⟨(h3 hp).1, fun o => ?_⟩⟩, hx.cell hb h.many, hx.cell hb h.made, h.most⟩
  · have hp : 0 < bs.length := by rw [wds_len] at hl; unfold wlen at hl; omega
    rw [(h3 hp).1] at e; cases e
    exact hg hp
  · rw [hx.frozen (p := ⟨g, o, none⟩) (h.glt hp) (hg hp)]; exact (h3 hp).2 o
theorem RowAt.ext {w w' : World} {b g : Nat} {bs : List Bool} (h : RowAt w b g bs) (hx : Ext w w') : RowAt w' b g bs := h.chg (P := fun _ => False) (Chg.of_ext hx) (fun a => a) (fun _ a => a)

/-- The words' cells. -/
theorem RowAt.word {w : World} {b g : Nat} {bs : List Bool} (h : RowAt w b g bs) (hb : 0 < bs.length) : ∀ k, k < wlen bs.length → w.cell? ⟨g, k, none⟩ = some (.int .u64 ((wd bs k : Nat) : Int)) := by
  obtain ⟨a, cap, _, hA, _, _, hg⟩ := h.ex
  intro k hk
  obtain ⟨x, o, e, hc⟩ := hA k (by rw [wds_len]; exact hk)
  rw [(hg hb).1] at e; cases e
  rw [Nat.zero_add] at hc
  rw [hc, wds_nth hk]

theorem RowAt.setWord {w : World} {b g k : Nat} {bs bs' : List Bool} {v : Int} (h : RowAt w b g bs) (hp : 0 < bs.length) (hl : bs'.length = bs.length) (hk : k < wlen bs.length) (hs : wds bs' = (wds bs).set k v) : RowAt (w.setCell ⟨g, k, none⟩ (.int .u64 v)) b g bs' := by
  have hgb := h.apart hp
  obtain ⟨a, cap, h0, hA, h1, h2, h3⟩ := h.ex
  obtain ⟨rfl, hf⟩ := h3 hp
  have far : ∀ o u, w.cell? ⟨b, o, none⟩ = some u → (w.setCell ⟨g, k, none⟩ (.int .u64 v)).cell? ⟨b, o, none⟩ = some u := fun o u hc => by
    rw [cell_far _ _ _ _ (by exact hgb)]; exact hc
  refine ⟨⟨some ⟨g, 0, none⟩, cap, by rw [hl]; exact far _ _ h0, by rw [hs]; exact hA.set (by rw [wds_len]; exact hk) v, by rw [hl]; exact h1, h2, fun _ => ⟨rfl, fun o => by simpa using hf o⟩⟩, by rw [hl]; exact far _ _ h.many, far _ _ h.made, by rw [hl]; exact h.most⟩
theorem RowAt.drew {w : World} {b g : Nat} {bs : List Bool} (h : RowAt w b g bs) : RowAt w.drew b g bs := h.ext (Ext.refl w).drew
theorem Chg.word {w : World} {g k : Nat} {bs : List Bool} (hp : 0 < bs.length) (v : Value) : Chg (tch g bs) w (w.setCell ⟨g, k, none⟩ v) := (Chg.refl _ w).setCell (.inl ⟨hp, rfl⟩) v

end Go.Proofs.YtlhajoamebfniaaDoor

/-! bits.Row's none, Len, has, Get, Set, New: what each hands back, and what becomes of memory. -/
namespace Go.Proofs.YtlhajoamebfniaaDoor
open Go.RowKit

/-- A row that is none (m), or one (not m). -/
def NoneAt (w : World) (p : Option Addr) (m : Bool) : Prop := (p = none ∧ m = true) ∨ ∃ b, p = some ⟨b, 0, none⟩ ∧ w.cell? ⟨b, 2, none⟩ = some (.bool (!m))
theorem RowAt.isNone {w : World} {b g : Nat} {bs : List Bool} (h : RowAt w b g bs) : NoneAt w (some ⟨b, 0, .none⟩) false := .inr ⟨b, rfl, h.made⟩
theorem NoneAt.chg {P : Nat → Prop} {w w' : World} {p : Option Addr} {m : Bool} (h : NoneAt w p m) (hx : Chg P w w') (hp : ∀ b, p = some ⟨b, 0, .none⟩ → ¬ P b) : NoneAt w' p m := by
  rcases h with h | ⟨b, rfl, hc⟩
  · exact .inl h
  · exact .inr ⟨b, rfl, hx.cell (hp b rfl) hc⟩
theorem NoneAt.ext {w w' : World} {p : Option Addr} {m : Bool} (h : NoneAt w p m) (hx : Ext w w') : NoneAt w' p m := h.chg (P := fun _ => False) (Chg.of_ext hx) fun _ _ a => a

set_option maxHeartbeats 1000000 in
theorem row_none {p : Option Addr} (m : Bool) {w : World} (h : NoneAt w p m) : Calls Tryd.prog 70 #[.pointer p] w fun e w' => e = .returned (.bool m) ∧ w = w' := by
  rcases h with ⟨rfl, rfl⟩ | ⟨b, rfl, hc⟩
  · go_enter Tryd.func70, Tryd.ntmps70
    go_wp2_with fail
    go_ret
    exact ⟨rfl, rfl⟩
  · cases m
    · replace hc : w.cell? ⟨b, 2, .none⟩ = some (.bool true) := hc
      go_enter Tryd.func70, Tryd.ntmps70
      go_wp2_with fail
      go_ret
      exact ⟨rfl, rfl⟩
    · replace hc : w.cell? ⟨b, 2, .none⟩ = some (.bool false) := hc
      go_enter Tryd.func70, Tryd.ntmps70
      go_wp2_with fail
      go_ret
      exact ⟨rfl, rfl⟩

set_option maxHeartbeats 1000000 in
theorem row_Len_no {p : Option Addr} {w : World} (h : NoneAt w p true) : Calls Tryd.prog 42 #[.pointer p] w fun e w' => e = .returned (.int .i64 0) ∧ w = w' := by
  go_enter Tryd.func42, Tryd.ntmps42
  go_wp2_with fail
  refine (row_none true h).mono ?_
  rintro e w1000 ⟨rfl, rfl⟩
  go_wp2_with fail
  go_ret
  exact ⟨rfl, rfl⟩
set_option maxHeartbeats 1000000 in
theorem row_Len {b g : Nat} (bs : List Bool) {w : World} (h : RowAt w b g bs) : Calls Tryd.prog 42 #[.pointer (some ⟨b, 0, none⟩)] w fun e w' => e = .returned (.int .i64 bs.length) ∧ w = w' := by
  have hm := h.many
  go_enter Tryd.func42, Tryd.ntmps42
  go_wp2_with fail
  refine (row_none false h.isNone).mono ?_
  rintro e w1000 ⟨rfl, rfl⟩
  go_wp2_with fail
  go_ret
  exact ⟨rfl, rfl⟩

set_option maxHeartbeats 1000000 in
theorem row_has_no {p : Option Addr} {i : Int} {w : World} (h : NoneAt w p true) : Calls Tryd.prog 69 #[.pointer p, .int .i64 i] w fun e w' => e = .returned (.bool false) ∧ w = w' := by
  by_cases hi : i < 0
  · go_enter Tryd.func69, Tryd.ntmps69
    go_wp2_with fail
    go_ret
    exact ⟨rfl, rfl⟩
  · have hi0 : 0 ≤ i := by omega
    go_enter Tryd.func69, Tryd.ntmps69
    go_wp2_with fail
    refine (row_Len_no h).mono ?_
    rintro e w1000 ⟨rfl, rfl⟩
    go_wp2_with fail
    go_ret
    exact ⟨ret_bool (decide_eq_false (by omega)), rfl⟩
set_option maxHeartbeats 1000000 in
theorem row_has {b g : Nat} {i : Int} (bs : List Bool) (r : Bool) {w : World} (h : RowAt w b g bs) (hr : decide (0 ≤ i ∧ i < bs.length) = r) : Calls Tryd.prog 69 #[.pointer (some ⟨b, 0, none⟩), .int .i64 i] w fun e w' => e = .returned (.bool r) ∧ w = w' := by
  have HR := Lib.hid hr; clear hr
  by_cases hi : i < 0
  · go_enter Tryd.func69, Tryd.ntmps69
    go_wp2_with fail
    go_ret
    exact ⟨ret_bool (by rw [← HR.out, decide_eq_false]; omega), rfl⟩
  · have hi0 : 0 ≤ i := by omega
    go_enter Tryd.func69, Tryd.ntmps69
    go_wp2_with fail
    refine (row_Len bs h).mono ?_
    rintro e w1000 ⟨rfl, rfl⟩
    go_wp2_with fail
    go_ret
    exact ⟨ret_bool (by rw [← HR.out, Bool.eq_iff_iff]; simp [hi0]), rfl⟩

/-! ### Get, Set -/
theorem bit_at {x i : Nat} (hx : x < 18446744073709551616) : ((bits .and .u64 ((x : Int) / 2 ^ i) 1 == 1) : Bool) = x.testBit i := by
  have e1 : ((x : Int) / 2 ^ i) = ((x / 2 ^ i : Nat) : Int) := by simp
  rw [e1, show (1 : Int) = ((1 : Nat) : Int) from rfl, u64_and_nat _ _ (Nat.lt_of_le_of_lt (Nat.div_le_self _ _) hx) (by decide), Nat.testBit, Nat.shiftRight_eq_div_pow, Nat.and_comm 1, Nat.and_one_is_mod]
  rcases Nat.mod_two_eq_zero_or_one (x / 2 ^ i) with e | e <;> rw [e] <;> rfl
def bget (bs : List Bool) (i : Int) : Bool := decide (0 ≤ i) && bnth bs i.toNat
def bsetR (bs : List Bool) (i : Int) (is : Bool) : List Bool × Int := if 0 ≤ i ∧ i < bs.length then (bs.set i.toNat is, 0) else (bs, 2)
theorem bget_no {bs : List Bool} {i : Int} (h : ¬ (0 ≤ i ∧ i < bs.length)) : bget bs i = false := by
  unfold bget
  by_cases h0 : 0 ≤ i
  · rw [bnth_out (by omega)]; simp
  · simp [h0]
theorem bget_nat (bs : List Bool) (i : Nat) : bget bs i = bnth bs i := by unfold bget; simp
theorem bsetR_yes {bs : List Bool} {i : Nat} {is : Bool} (h : i < bs.length) : bsetR bs i is = (bs.set i is, 0) := by unfold bsetR; rw [if_pos (by omega), Int.toNat_natCast]
theorem bsetR_no {bs : List Bool} {i : Int} {is : Bool} (h : ¬ (0 ≤ i ∧ i < bs.length)) : bsetR bs i is = (bs, 2) := by unfold bsetR; rw [if_neg h]

set_option maxHeartbeats 1000000 in
theorem row_Get_no {p : Option Addr} {i : Int} {w : World} (h : NoneAt w p true) : Calls Tryd.prog 27 #[.pointer p, .int .i64 i] w fun e w' => e = .returned (.bool false) ∧ w = w' := by
  go_enter Tryd.func27, Tryd.ntmps27
  go_wp2_with fail
  refine (row_has_no h).mono ?_
  rintro e w1000 ⟨rfl, rfl⟩
  go_wp2_with fail
  go_ret
  exact ⟨rfl, rfl⟩
set_option maxHeartbeats 1000000 in
theorem row_Get {b g : Nat} {i : Int} (bs : List Bool) (r : Bool) {w : World} (h : RowAt w b g bs) (hr : bget bs i = r) : Calls Tryd.prog 27 #[.pointer (some ⟨b, 0, none⟩), .int .i64 i] w fun e w' => e = .returned (.bool r) ∧ w = w' := by
  have HR := Lib.hid hr; clear hr
  by_cases hi : 0 ≤ i ∧ i < bs.length
  · have D := Lib.hid (show decide (0 ≤ i ∧ i < bs.length) = true from decide_eq_true hi)
    obtain ⟨n, rfl⟩ := Int.eq_ofNat_of_zero_le hi.1
    have hn : n < bs.length := by omega
    have h65 := h.most
    have hw := h.word (by omega) (n / 64) (by unfold wlen; omega)
    obtain ⟨a, cap, h0, hA, h1, h2, hg⟩ := h.ex
    obtain ⟨rfl, _⟩ := hg (by omega)
    have hwl : n / 64 < wlen bs.length := by unfold wlen; omega
    have H := Lib.hid h
    clear hA hi h hg
    go_enter Tryd.func27, Tryd.ntmps27
    go_wp2_with fail
    refine (row_has bs true H.out D.out).mono ?_
    rintro e w1000 ⟨rfl, rfl⟩
    go_wp2_with fail
    go_ret
    exact ⟨ret_bool (by rw [← HR.out, bget_nat, bit_at (wd_lt _ _), wd_bit _ _ _ (by omega)]; congr 1; omega), rfl⟩
  · have D := Lib.hid (show decide (0 ≤ i ∧ i < bs.length) = false from decide_eq_false hi)
    have HN := Lib.hid (bget_no hi)
    clear hi
    go_enter Tryd.func27, Tryd.ntmps27
    go_wp2_with fail
    refine (row_has bs false h D.out).mono ?_
    rintro e w1000 ⟨rfl, rfl⟩
    go_wp2_with fail
    go_ret
    exact ⟨ret_bool (by rw [← HR.out, HN.out]), rfl⟩

set_option maxHeartbeats 1000000 in
theorem row_Set_no {p : Option Addr} {i : Int} {is : Bool} {w : World} (h : NoneAt w p true) : Calls Tryd.prog 55 #[.pointer p, .int .i64 i, .bool is] w fun e w' => e = .returned (.int .i64 1) ∧ w = w' := by
  go_enter Tryd.func55, Tryd.ntmps55
  go_wp2_with fail
  refine (row_none true h).mono ?_
  rintro e w1000 ⟨rfl, rfl⟩
  go_wp2_with fail
  go_ret
  exact ⟨rfl, rfl⟩

theorem pow_wrap (n : Nat) : IntKind.u64.wrap (2 ^ (n % 64)) = ((2 ^ (n % 64) : Nat) : Int) := by
  have hp : 2 ^ (n % 64) < 2 ^ 64 := Nat.pow_lt_pow_right (by decide) (by omega)
  have e : (2 : Nat) ^ 64 = 18446744073709551616 := by decide
  rw [IntKind.wrap_u64, show ((2 : Int) ^ (n % 64)) = ((2 ^ (n % 64) : Nat) : Int) by simp]
  exact Int.emod_eq_of_lt (Int.natCast_nonneg _) (by omega)
theorem pow_64 (n : Nat) : 2 ^ (n % 64) < 18446744073709551616 := show 2 ^ (n % 64) < 2 ^ 64 from Nat.pow_lt_pow_right (by decide) (by omega)
theorem set_true {bs : List Bool} {n : Nat} (h : n < bs.length) : bits .or .u64 ((wd bs (n / 64) : Nat) : Int) (IntKind.u64.wrap (2 ^ (n % 64))) = ((wd (bs.set n true) (n / 64) : Nat) : Int) := by
  rw [pow_wrap, u64_or_nat _ _ (wd_lt _ _) (pow_64 n), wd_set_true h]
theorem set_false {bs : List Bool} {n : Nat} (h : n < bs.length) : bits .andNot .u64 ((wd bs (n / 64) : Nat) : Int) (IntKind.u64.wrap (2 ^ (n % 64))) = ((wd (bs.set n false) (n / 64) : Nat) : Int) := by
  rw [pow_wrap, u64_andNot_nat _ _ (wd_lt _ _) (pow_64 n), wd_set_false h, show 18446744073709551616 - (2 ^ (n % 64) + 1) = 18446744073709551615 - 2 ^ (n % 64) by omega]

/-- What Set leaves. -/
def SetPost (b g : Nat) (bs bs' : List Bool) (q : Int) (w : World) (e : Ending) (w' : World) : Prop := e = .returned (.int .i64 q) ∧ RowAt w' b g bs' ∧ Chg (tch g bs) w w'
set_option maxHeartbeats 2000000 in
theorem row_Set {b g : Nat} {i : Int} {is : Bool} (bs bs' : List Bool) (q : Int) {w : World} (h : RowAt w b g bs) (hr : bsetR bs i is = (bs', q)) :
    Calls Tryd.prog 55 #[.pointer (some ⟨b, 0, none⟩), .int .i64 i, .bool is] w (SetPost b g bs bs' q w) := by
  by_cases hi : 0 ≤ i ∧ i < bs.length
  · have D := Lib.hid (show decide (0 ≤ i ∧ i < bs.length) = true from decide_eq_true hi)
    obtain ⟨n, rfl⟩ := Int.eq_ofNat_of_zero_le hi.1
    have hn : n < bs.length := by omega
    rw [bsetR_yes hn] at hr
    cases hr
    have h65 := h.most
    have hw := h.word (by omega) (n / 64) (by unfold wlen; omega)
    obtain ⟨a, cap, h0, hA, h1, h2, hg⟩ := h.ex
    obtain ⟨rfl, hf⟩ := hg (by omega)
    have hfz := hf (n / 64)
    have hwl : n / 64 < wlen bs.length := by unfold wlen; omega
    have hwi : ((n : Int) / 64) < ((wlen bs.length : Nat) : Int) := by omega
    have H := Lib.hid h
    clear hA hi h hg hf
    cases is
    · have SW := Lib.hid (set_false hn)
      have HS := Lib.hid (wds_set (b := false) hn)
      go_enter Tryd.func55, Tryd.ntmps55
      go_wp2_with fail
      refine (row_none false H.out.isNone).mono ?_
      rintro e w1000 ⟨rfl, rfl⟩
      go_wp2_with fail
      refine (row_has bs true H.out D.out).mono ?_
      rintro e w1000 ⟨rfl, rfl⟩
      go_wp2_with fail
      go_wp2_with fail
      go_region
      go_wp2_with fail
      go_ret
      rw [SW.out]
      exact ⟨rfl, (H.out.setWord (by omega) (by simp) hwl HS.out).drew, (Chg.word (by omega) _).drew⟩
    · have SW := Lib.hid (set_true hn)
      have HS := Lib.hid (wds_set (b := true) hn)
      go_enter Tryd.func55, Tryd.ntmps55
      go_wp2_with fail
      refine (row_none false H.out.isNone).mono ?_
      rintro e w1000 ⟨rfl, rfl⟩
      go_wp2_with fail
      refine (row_has bs true H.out D.out).mono ?_
      rintro e w1000 ⟨rfl, rfl⟩
      go_wp2_with fail
      go_wp2_with fail
      go_region
      go_wp2_with fail
      go_ret
      rw [SW.out]
      exact ⟨rfl, (H.out.setWord (by omega) (by simp) hwl HS.out).drew, (Chg.word (by omega) _).drew⟩
  · have D := Lib.hid (show decide (0 ≤ i ∧ i < bs.length) = false from decide_eq_false hi)
    rw [bsetR_no hi] at hr
    cases hr
    clear hi
    have H := Lib.hid h
    clear h
    go_enter Tryd.func55, Tryd.ntmps55
    go_wp2_with fail
    refine (row_none false H.out.isNone).mono ?_
    rintro e w1000 ⟨rfl, rfl⟩
    go_wp2_with fail
    refine (row_has bs false H.out D.out).mono ?_
    rintro e w1000 ⟨rfl, rfl⟩
    go_wp2_with fail
    go_ret
    exact ⟨rfl, H.out, Chg.refl _ _⟩

end Go.Proofs.YtlhajoamebfniaaDoor

/-! slices.Clone of words: words of its own. -/
namespace Go.Proofs.YtlhajoamebfniaaDoor
open Go.RowKit

theorem info_w64 : (Tryd.prog.info? 120).map (fun i => (i.zero, i.size, i.bytes)) = some (some (.int .u64 0), 1, 8) := by kernel_rfl
set_option maxHeartbeats 1000000 in
theorem clone_words {a : Option Addr} {cap : Nat} (xs : List Int) {w : World} (h : At .u64 w a xs) (hb : xs.length * 8 ≤ 140737488355328) :
    Calls Tryd.prog 92 #[.slice a xs.length cap] w (ClonedInts .u64 xs w) := by
  obtain ⟨i0, hi0, hz0, hz1, hz2⟩ := info_parts info_w64
  have he : ∀ (a : Option Addr) n c (w : World), (binOp .eql 121 (.slice a n c) (.slice none 0 0)).run Tryd.prog w = .ok (.bool a.isNone) w := fun a n c w => Lib.run_eql_slice_nil w _ _ a n c 0 0 Tryd.underlying121
  cases a with
  | none =>
    have hl : xs.length = 0 := by
      rcases Nat.eq_zero_or_pos xs.length with c | c
      · exact c
      · obtain ⟨b, o, e, _⟩ := h.pos c; cases e
    obtain rfl := List.length_eq_zero_iff.1 hl
    clear h
    go_enter Tryd.func92, Tryd.ntmps92
    go_wp2_with fail
    go_ret
    exact ⟨none, 0, rfl, ⟨fun i hi => absurd hi (Nat.not_lt_zero _), Nat.le_refl _, Nat.zero_le _, fun hi => absurd hi (Nat.lt_irrefl 0)⟩, Ext.refl w⟩
  | some ad =>
    have hnews : ∀ j u, (ncs .u64 xs)[j]? = some u → w.cell? (ad.add j) = some u := by
      intro j u hj
      have hl := (List.getElem?_eq_some_iff.1 hj).1
      rw [ncs_len] at hl
      obtain ⟨b, o, e, hc⟩ := h.pos (by omega)
      cases e
      exact ncs_news hc j u hj
    have HN := Lib.hid hnews; clear hnews h
    have hn63 : xs.length ≤ maxLen := by unfold maxLen; omega
    have HM := Lib.hid hn63; clear hn63
    go_enter Tryd.func92, Tryd.ntmps92
    go_wp2_with (at_builtin; refine wpList_append_own _ rfl (.tmp 5) (.tmp 6) 121 rfl w.heap.size 120 i0 (.int .u64 0) 1 8 Tryd.underlying121 hi0 hz0 hz1 hz2 rfl (by decide) (.slice (some ⟨w.heap.size, 0, none⟩) 0 0) 0 [] rfl (World.ownsRow_made _ #[] 0 (Nat.le_refl _) (by decide) rfl) ad xs.length cap (ncs .u64 xs) rfl (by rw [ncs_len, Nat.mul_one]) (fun j u hj => cell_alloc (HN.out j u hj) _) (ncs_one _ _) (by rw [Nat.zero_add]; exact HM.out) (by rw [Nat.zero_add]; exact hb) (by simp) ?_; intro v' w1 hown hgrow hnil)
    go_ret
    rw [Nat.zero_add, List.nil_append] at hown
    have hx : Ext w w1 := Ext.of (((Ext.refl w).alloc (.cells #[] 120)).below.grown hgrow (by simp) (fun k e => by cases e; exact Nat.le_refl _))
    obtain ⟨a', c', rfl, hn⟩ := newInts_of hown
    exact ⟨a', c', rfl, hn, hx⟩

end Go.Proofs.YtlhajoamebfniaaDoor

/-! A row that 'make' lays. No program is named here. -/
namespace Go.Proofs.YtlhajoamebfniaaDoor
open Go.RowKit

theorem made_at {z : Value} {n i : Nat} (h : i < n) : (madeCells #[z] n)[i]? = some z := by
  have e := toList_madeCells_one z n
  rw [← Array.getElem?_toList, e]
  simp [h]

end Go.Proofs.YtlhajoamebfniaaDoor

/-! bits.New, Clear, Less, Words, Copy, Count. -/
namespace Go.Proofs.YtlhajoamebfniaaDoor
open Go.RowKit

/-- What New hands back: a row of zeros of its own. -/
def NewPost (n : Nat) (w : World) (e : Ending) (w' : World) : Prop :=
  ∃ b g, e = .returned (.tuple #[.pointer (some ⟨b, 0, none⟩), .int .i64 0]) ∧ RowAt w' b g (List.replicate n false) ∧ w.heap.size ≤ b ∧ (0 < n → w.heap.size ≤ g) ∧ Ext w w'

set_option maxHeartbeats 1000000 in
theorem bits_New_no (n : Int) {w : World} (h : n < 0 ∨ 65536 < n) : Calls Tryd.prog 41 #[.int .i64 n] w fun e w' => e = .returned (.tuple #[.pointer none, .int .i64 2]) ∧ w = w' := by
  by_cases h0 : n < 0
  · go_enter Tryd.func41, Tryd.ntmps41
    go_wp2_with fail
    go_ret2
    exact ⟨rfl, rfl⟩
  · have h1 : 65536 < n := by omega
    have h2 : 0 ≤ n := by omega
    go_enter Tryd.func41, Tryd.ntmps41
    go_wp2_with fail
    go_ret2
    exact ⟨rfl, rfl⟩

theorem wds_zero (n k : Nat) (h : k < wlen n) : nth (wds (List.replicate n false)) k = 0 := by
  rw [wds_nth (by simpa using h), wd_zero fun j _ => bnth_rep0 n _]
  rfl
theorem RowAt.newZero {w : World} {n : Nat} {t u : TypeId} (h : n ≤ 65536) : RowAt ((w.alloc (.cells (madeCells #[.int .u64 0] (wlen n)) t)).alloc (.cells #[.slice (some ⟨w.heap.size, 0, none⟩) (wlen n) (wlen n), .int .i64 n, .bool true] u)) (w.heap.size + 1) w.heap.size (List.replicate n false) := by
  have c := fun i => cell_newN (w.alloc (.cells (madeCells #[.int .u64 0] (wlen n)) t)) #[.slice (some ⟨w.heap.size, 0, none⟩) (wlen n) (wlen n), .int .i64 n, .bool true] u i
  simp only [World.size_alloc] at c
  refine ⟨⟨some ⟨w.heap.size, 0, none⟩, wlen n, ?_, ?_, ?_, ?_, fun _ => ⟨rfl, fun o => ?_⟩⟩, ?_, ?_, ?_⟩
  · rw [c 0]; simp
  · refine At.mk fun i hi => ?_
    rw [wds_len, List.length_replicate] at hi
    rw [Nat.zero_add, wds_zero n i hi]
    exact ((Ext.refl _).alloc _).cell (by rw [cell_newN, made_at hi])
  · simp
  · unfold wlen maxLen; omega
  · rw [((Ext.refl _).alloc _).frozen (by simp)]; simp
  · rw [c 1]; simp
  · rw [c 2]; simp
  · simpa using h
theorem make_words (n : Nat) (h : n ≤ 65536) : ∀ W : World, (Instr.makeSlice 121 (.int .i64 (((n : Int) + 64 - 1) / 64)) (.int .i64 (((n : Int) + 64 - 1) / 64))).run Tryd.prog W = .ok (.slice (some ⟨W.heap.size, 0, none⟩) (wlen n) (wlen n)) (W.alloc (.cells (madeCells #[.int .u64 0] (wlen n)) 120)) := by
  intro W
  have e : ((n : Int) + 64 - 1) / 64 = ((wlen n : Nat) : Int) := by unfold wlen; omega
  rw [e]
  exact run_make_row' 121 120 (.int .u64 0) 8 Tryd.underlying121 info_w64 rfl .i64 .i64 (wlen n) (by unfold wlen; omega) (by unfold wlen; omega) W

set_option maxRecDepth 100000 in
set_option maxHeartbeats 1000000 in
theorem bits_New (n : Nat) {w : World} (h : n ≤ 65536) : Calls Tryd.prog 41 #[.int .i64 n] w (NewPost n w) := by
  have hmk := make_words n h
  have t0 : decide ((n : Int) < 0) = false := by simp
  have t1 : decide ((65536 : Int) < (n : Int)) = false := by simp; omega
  go_enter Tryd.func41, Tryd.ntmps41
  go_wp2_with fail
  go_ret2
  exact ⟨w.heap.size + 1, w.heap.size, rfl, RowAt.newZero h, by omega, fun _ => Nat.le_refl _, ((Ext.refl w).alloc _).alloc _⟩




/-! ### Count -/
theorem and_nat64 (a b : Nat) (ha : a < 18446744073709551616) (hb : b < 18446744073709551616) : bits .and .u64 (a : Int) (b : Int) = ((a &&& b : Nat) : Int) := u64_and_nat a b ha hb
theorem wrapN {n : Nat} (h : n < 18446744073709551616) : IntKind.u64.wrap (n : Int) = n := by
  rw [IntKind.wrap_u64]; exact Int.emod_eq_of_lt (Int.natCast_nonneg _) (by omega)
theorem wrapA {m n : Nat} (h : m + n < 18446744073709551616) : IntKind.u64.wrap ((m : Int) + (n : Int)) = ((m + n : Nat) : Int) := by
  rw [← wrapN h]; congr 1
theorem andC {n c : Nat} {k : Int} (h : n < 18446744073709551616) (hc : c < 18446744073709551616) (e : (c : Int) = k) : bits .and .u64 (n : Int) k = ((n &&& c : Nat) : Int) := by
  rw [← e]; exact u64_and_nat n c h hc
set_option maxRecDepth 100000 in
set_option maxHeartbeats 1000000 in
theorem bits_OnesCount64 (x : Nat) {w : World} (hx : x < 18446744073709551616) : Calls Tryd.prog 71 #[.int .u64 x] w fun e w' => e = .returned (.int .i64 ((popc 64 x : Nat) : Int)) ∧ w = w' := by
  have HP := Lib.hid (ones64_eq hx)
  have HM := Lib.hid (ones64_mid hx)
  have HX := Lib.hid hx
  clear hx
  go_enter Tryd.func71, Tryd.ntmps71
  go_wp2_with fail
  go_ret
  refine ⟨ret_int ?_, rfl⟩
  have h := HX.out
  obtain ⟨hm, ha, hb⟩ := HM.out
  obtain ⟨hs, hd, he, hf⟩ := sum8 _ _ _ _ _ _ _ _ (popc_le 8 (x % 256)) (popc_le 8 (x / 256 % 256)) (popc_le 8 (x / 65536 % 256)) (popc_le 8 (x / 16777216 % 256)) (popc_le 8 (x / 4294967296 % 256)) (popc_le 8 (x / 1099511627776 % 256)) (popc_le 8 (x / 281474976710656 % 256)) (popc_le 8 (x / 72057594037927936 % 256)) _ _ _ _ rfl rfl rfl rfl
  have hmm := hm
  rw [show (bytes8 x).map (fun b => popc 8 b) = [popc 8 (x % 256), popc 8 (x / 256 % 256), popc 8 (x / 65536 % 256), popc 8 (x / 16777216 % 256), popc 8 (x / 4294967296 % 256), popc 8 (x / 1099511627776 % 256), popc 8 (x / 281474976710656 % 256), popc 8 (x / 72057594037927936 % 256)] from rfl] at hmm
  rw [← hmm] at hs hd he hf
  rw [← popc_bytes] at hs
  have q : ∀ (n d : Nat), ((n : Int) / (d : Int)) = ((n / d : Nat) : Int) := fun n d => (Int.natCast_ediv n d).symm
  have q2 : ((x : Int) / 2) = ((x / 2 : Nat) : Int) := q x 2
  rw [q2, andC (n := x / 2) (by omega) (c := 6148914691236517205) (k := 6148914691236517205) (by decide) rfl, andC (n := x) h (c := 6148914691236517205) (k := 6148914691236517205) (by decide) rfl, wrapA ha]
  generalize (x / 2 &&& 6148914691236517205) + (x &&& 6148914691236517205) = a at *
  rw [show ((a : Int) / 4) = ((a / 4 : Nat) : Int) from q a 4, andC (n := a / 4) (by omega) (c := 3689348814741910323) (k := 3689348814741910323) (by decide) rfl, andC (n := a) ha (c := 3689348814741910323) (k := 3689348814741910323) (by decide) rfl, wrapA (by omega)]
  generalize (a / 4 &&& 3689348814741910323) + (a &&& 3689348814741910323) = b at *
  rw [show ((b : Int) / 16) = ((b / 16 : Nat) : Int) from q b 16, wrapA (by omega), andC (n := b / 16 + b) (by omega) (c := 1085102592571150095) (k := 1085102592571150095) (by decide) rfl]
  generalize ((b / 16 + b) &&& 1085102592571150095) = c at *
  rw [show ((c : Int) / 256) = ((c / 256 : Nat) : Int) from q c 256, wrapA hd]
  generalize c + c / 256 = d at *
  rw [show ((d : Int) / 65536) = ((d / 65536 : Nat) : Int) from q d 65536, wrapA he]
  generalize d + d / 65536 = e at *
  rw [show ((e : Int) / 4294967296) = ((e / 4294967296 : Nat) : Int) from q e 4294967296, wrapA (by omega)]
  generalize e + e / 4294967296 = f at *
  have hp : popc 64 x ≤ 64 := popc_le 64 x
  rw [IntWalk.wrap64_in _ (by omega), i64_and127, show ((f : Int) % 128) = ((f % 128 : Nat) : Int) from (Int.natCast_emod f 128).symm, hs]

end Go.Proofs.YtlhajoamebfniaaDoor

/-! bits.Row's Count, Clear, Less, Copy. -/
namespace Go.Proofs.YtlhajoamebfniaaDoor
open Go.RowKit

set_option maxHeartbeats 1000000 in
theorem row_Count_no {p : Option Addr} {w : World} (h : NoneAt w p true) : Calls Tryd.prog 31 #[.pointer p] w fun e w' => e = .returned (.int .i64 0) ∧ w = w' := by
  go_enter Tryd.func31, Tryd.ntmps31
  go_wp2_with fail
  refine (row_none true h).mono ?_
  rintro e w1000 ⟨rfl, rfl⟩
  go_wp2_with fail
  go_ret
  exact ⟨rfl, rfl⟩

set_option maxRecDepth 100000 in
set_option maxHeartbeats 1000000 in
theorem row_Count {b g : Nat} (bs : List Bool) (c : Nat) {w : World} (h : RowAt w b g bs) (hc : bcnt bs bs.length = c) : Calls Tryd.prog 31 #[.pointer (some ⟨b, 0, none⟩)] w fun e w' => e = .returned (.int .i64 c) ∧ w = w' := by
  have HC := Lib.hid hc; clear hc
  have h65 := h.most
  obtain ⟨a, cap, h0, hA, h1, h2, hg⟩ := h.ex
  have hword := h.word
  have HW := Lib.hid hword
  have HG := Lib.hid hg
  have HN := Lib.hid h.isNone
  have hwl : wlen bs.length ≤ 1024 := by unfold wlen; omega
  clear h hA hword hg
  unfold maxLen at h2
  go_enter Tryd.func31, Tryd.ntmps31
  go_wp2_with fail
  refine (row_none false HN.out).mono ?_
  rintro e w1000 ⟨rfl, rfl⟩
  go_wp2_with fail
  go_loop [3, 14] (fun n k => ∃ j : Nat, j ≤ wlen bs.length ∧ n = .int .i64 ((bcnt bs (64 * j) : Nat) : Int) ∧ k = .int .i64 j) (fun _ k => wlen bs.length - (intOf k).toNat)
  case atStart => exact ⟨0, Nat.zero_le _, rfl, rfl⟩
  case round =>
    obtain ⟨j, hj, rfl, rfl⟩ := hrel
    by_cases hlt : j < wlen bs.length
    · have hp : 0 < bs.length := by unfold wlen at hlt; omega
      have hw := HW.out hp j hlt
      obtain ⟨rfl, _⟩ := HG.out hp
      have hcn := bcnt_le bs (64 * j)
      have hpn := popc_le 64 (wd bs j)
      have HB := Lib.hid (bcnt_word bs j)
      have HL := Lib.hid (wd_lt bs j)
      generalize wd bs j = x at *
      obtain ⟨cb, hcb⟩ : ∃ cb, bcnt bs (64 * j) = cb := ⟨_, rfl⟩
      obtain ⟨cp, hcp⟩ : ∃ cp, popc 64 x = cp := ⟨_, rfl⟩
      have HCP := Lib.hid hcp
      rw [hcb, hcp] at HB
      rw [hcb] at hcn
      rw [hcp] at hpn
      rw [hcb]
      clear hcb hcp
      go_wp2_with fail
      refine (bits_OnesCount64 x HL.out).mono ?_
      rw [HCP.out]
      rintro e w1 ⟨rfl, rfl⟩
      go_wp2_with fail
      go_round
      case rel => exact ⟨j + 1, by omega, by rw [← HB.out]; go_num, by go_num⟩
      case measure => simp [intOf]; omega
    · obtain rfl : j = wlen bs.length := by omega
      rw [bcnt_all bs, HC.out]
      go_wp2_with fail
      go_ret
      exact ⟨rfl, rfl⟩

/-! ### Clear -/
def allFalse (bs : List Bool) : List Bool := List.replicate bs.length false
/-- What Clear leaves. -/
def ClearPost (b g : Nat) (bs : List Bool) (w : World) (e : Ending) (w' : World) : Prop := (∃ v, e = .returned v) ∧ RowAt w' b g (List.replicate bs.length false) ∧ Chg (tch g bs) w w'
set_option maxHeartbeats 1000000 in
theorem row_Clear_no {p : Option Addr} {w : World} (h : NoneAt w p true) : Calls Tryd.prog 40 #[.pointer p] w fun e w' => (∃ v, e = .returned v) ∧ w = w' := by
  go_enter Tryd.func40, Tryd.ntmps40
  go_wp2_with fail
  refine (row_none true h).mono ?_
  rintro e w1000 ⟨rfl, rfl⟩
  go_wp2_with fail
  go_end0
  exact ⟨⟨_, rfl⟩, rfl⟩

theorem RowAt.zeroed {w : World} {b g : Nat} {bs : List Bool} (h : RowAt w b g bs) (hp : 0 < bs.length) : RowAt (w.setCells g 0 (List.replicate (wlen bs.length) (.int .u64 0))) b g (List.replicate bs.length false) := by
  have hgb := h.apart hp
  have hword := h.word hp
  obtain ⟨a, cap, h0, hA, h1, h2, h3⟩ := h.ex
  obtain ⟨rfl, hf⟩ := h3 hp
  have far : ∀ o u, w.cell? ⟨b, o, none⟩ = some u → (w.setCells g 0 (List.replicate (wlen bs.length) (.int .u64 0))).cell? ⟨b, o, none⟩ = some u := fun o u hc => by
    rw [World.cell?_setCells_out g _ 0 w ⟨b, o, none⟩ (fun e => absurd e.symm hgb)]; exact hc
  refine ⟨⟨some ⟨g, 0, none⟩, cap, by rw [List.length_replicate]; exact far _ _ h0, At.mk fun i hi => ?_, by rw [List.length_replicate]; exact h1, h2, fun _ => ⟨rfl, fun o => by rw [World.frozen?_setCells]; exact hf o⟩⟩, by rw [List.length_replicate]; exact far _ _ h.many, far _ _ h.made, by rw [List.length_replicate]; exact h.most⟩
  rw [wds_len, List.length_replicate] at hi
  have hin := World.cell?_setCells_in g (List.replicate (wlen bs.length) (.int .u64 0)) 0 w (fun j hj => by rw [List.length_replicate] at hj; rw [Nat.zero_add, hword j hj]; rfl) i (by simpa using hi)
  rw [hin, wds_zero _ _ hi]
  simp
set_option maxRecDepth 100000 in
set_option maxHeartbeats 1000000 in
theorem row_Clear {b g : Nat} (bs : List Bool) {w : World} (h : RowAt w b g bs) : Calls Tryd.prog 40 #[.pointer (some ⟨b, 0, none⟩)] w (ClearPost b g bs w) := by
  have H := Lib.hid h
  have hword := h.word
  obtain ⟨a, cap, h0, hA, h1, h2, hg⟩ := h.ex
  rcases Nat.eq_zero_or_pos bs.length with hz | hp
  · obtain rfl := List.length_eq_zero_iff.1 hz
    have hcl : ∀ ty, (Builtin.clear_ #[121] ty #[.slice a 0 cap]).run Tryd.prog w = .ok (.tuple #[]) w := fun ty => by
      cases a <;> simp [Builtin.clear_, run_underlying Tryd.underlying121]
    replace h0 : w.cell? ⟨b, 0, .none⟩ = some (.slice a 0 cap) := h0
    clear h hA hword hg
    go_enter Tryd.func40, Tryd.ntmps40
    go_wp2_with fail
    refine (row_none false H.out.isNone).mono ?_
    rintro e w1000 ⟨rfl, rfl⟩
    go_wp2_with fail
    go_end0
    exact ⟨⟨_, rfl⟩, H.out, Chg.refl _ _⟩
  · obtain ⟨rfl, hf⟩ := hg hp
    have hv : ∀ w, (zeroValue 120).run Tryd.prog w = .ok (.int .u64 0) w := fun w => by kernel_rfl
    have hcl : ∀ ty, (Builtin.clear_ #[121] ty #[.slice (some ⟨g, 0, none⟩) (wlen bs.length) cap]).run Tryd.prog w = .ok (.tuple #[]) (w.setCells g 0 (List.replicate (wlen bs.length) (.int .u64 0))) := fun ty =>
      Lib.run_clear_slice w _ 120 ty (.int .u64 0) Tryd.underlying121 hv rfl rfl g 0 (wlen bs.length) cap (wlen_pos hp) (fun j hj => by rw [Nat.zero_add, hword hp j hj]; rfl) (fun j _ => hf _)
    clear h hA hword hg hf hv
    go_enter Tryd.func40, Tryd.ntmps40
    go_wp2_with fail
    refine (row_none false H.out.isNone).mono ?_
    rintro e w1000 ⟨rfl, rfl⟩
    go_wp2_with fail
    go_end0
    exact ⟨⟨_, rfl⟩, H.out.zeroed hp, Chg.setCells _ _ (Chg.refl _ _) ⟨hp, rfl⟩⟩

/-! ### Copy -/
set_option maxHeartbeats 1000000 in
theorem row_Copy_no {p : Option Addr} {w : World} (h : NoneAt w p true) : Calls Tryd.prog 65 #[.pointer p] w fun e w' => e = .returned (.pointer none) ∧ w = w' := by
  go_enter Tryd.func65, Tryd.ntmps65
  go_wp2_with fail
  refine (row_none true h).mono ?_
  rintro e w1000 ⟨rfl, rfl⟩
  go_wp2_with fail
  go_ret
  exact ⟨rfl, rfl⟩
/-- A row of its own, of the same bits. -/
def CopyPost (bs : List Bool) (w : World) (e : Ending) (w' : World) : Prop := ∃ b g, e = .returned (.pointer (some ⟨b, 0, none⟩)) ∧ RowAt w' b g bs ∧ w.heap.size ≤ b ∧ (0 < bs.length → w.heap.size ≤ g) ∧ Ext w w'
theorem RowAt.newFrom {w W : World} {a : Option Addr} {cap n k : Nat} {bs : List Bool} {u : TypeId} (hn : NewInts .u64 w W a cap (wds bs)) (hl : bs.length ≤ 65536) (hk : bs.length = k) (hw : wlen bs.length = n) :
    ∃ g, RowAt (W.alloc (.cells #[.slice a n cap, .int .i64 k, .bool true] u)) W.heap.size g bs ∧ (0 < bs.length → w.heap.size ≤ g) := by
  subst hk hw
  have c := fun i => cell_newN W #[.slice a (wlen bs.length) cap, .int .i64 bs.length, .bool true] u i
  have hx : Ext W (W.alloc (.cells #[.slice a (wlen bs.length) cap, .int .i64 bs.length, .bool true] u)) := (Ext.refl W).alloc _
  have c1 := hn.cap1
  rw [wds_len] at c1
  rcases Nat.eq_zero_or_pos bs.length with hz | hp
  · exact ⟨0, ⟨⟨a, cap, c 0, hn.row.ext hx, c1, hn.cap2, fun h => absurd h (by omega)⟩, c 1, c 2, hl⟩, fun h => absurd h (by omega)⟩
  · obtain ⟨g, rfl, g1, g2, g3⟩ := hn.own (by rw [wds_len]; exact wlen_pos hp)
    exact ⟨g, ⟨⟨_, cap, c 0, hn.row.ext hx, c1, hn.cap2, fun _ => ⟨rfl, fun o => by rw [hx.frozen (p := ⟨g, o, none⟩) g2]; exact g3 o⟩⟩, c 1, c 2, hl⟩, fun _ => g1⟩

set_option maxHeartbeats 2000000 in
theorem row_Copy {b g : Nat} (bs : List Bool) {w : World} (h : RowAt w b g bs) : Calls Tryd.prog 65 #[.pointer (some ⟨b, 0, none⟩)] w (CopyPost bs w) := by
  obtain ⟨a, cap, h0, hA, h1, h2, _⟩ := h.ex
  have hm := h.many
  have hb : (wds bs).length * 8 ≤ 140737488355328 := by rw [wds_len]; have := h.most; unfold wlen; omega
  have HA := Lib.hid hA; have HB := Lib.hid hb; have HN := Lib.hid h.isNone
  have L := Lib.hid (wds_len bs)
  have HM := Lib.hid h.most
  have n0 := World.new_ne w _ h0
  clear h hA hb
  rw [← L.out] at h0
  go_enter Tryd.func65, Tryd.ntmps65
  go_wp2_with fail
  refine (row_none false HN.out).mono ?_
  rintro e w1000 ⟨rfl, rfl⟩
  go_wp2_with fail
  go_region_held3 (fun w' => w'.cell? ⟨b, 0, none⟩ = some (.slice a (wds bs).length cap) ∧ w'.cell? ⟨b, 1, none⟩ = some (.int .i64 bs.length))
    ((first | go_keep | (go_split_ands; exact ⟨hE.cell (by assumption), hE.cell (by assumption)⟩)))
    ((go_at_call 92; refine (clone_words (wds bs) ?_ HB.out).mono ?_; (first | exact HA.out | exact HA.out.ext ((Ext.refl _).drew) | exact HA.out.ext ((Ext.refl _).drewN _) | fail); rintro e w1 ⟨a1, c1, rfl, hn1, hE⟩))
  all_goals
    have hz : w.heap.size ≤ w1.heap.size := hE.size
    obtain ⟨g1, hr, hg⟩ := RowAt.newFrom (u := 123) hn1 HM.out rfl L.out.symm
    go_wp2_with fail
    go_ret
    exact ⟨_, g1, rfl, hr, hz, hg, (((Ext.refl w).drew).trans hE).alloc _⟩

/-! ### Less -/
def blessTo (rs bs : List Bool) (k : Nat) : List Bool := (List.range rs.length).map fun i => bnth rs i && !(decide (i < 64 * k) && bnth bs i)
theorem blessTo_len (rs bs : List Bool) (k : Nat) : (blessTo rs bs k).length = rs.length := by unfold blessTo; simp
theorem blessTo_nth (rs bs : List Bool) (k i : Nat) : bnth (blessTo rs bs k) i = (bnth rs i && !(decide (i < 64 * k) && bnth bs i)) := by
  by_cases h : i < rs.length
  · unfold blessTo bnth; simp [List.getD, h]
  · rw [bnth_out (by rw [blessTo_len]; omega), bnth_out (bs := rs) (by omega)]; rfl
theorem blessTo_zero (rs bs : List Bool) : blessTo rs bs 0 = rs := bext (blessTo_len _ _ _) fun i _ => by rw [blessTo_nth]; simp
theorem blessTo_all (rs bs : List Bool) : blessTo rs bs (wlen rs.length) = bless rs bs := bext (by rw [blessTo_len, bless_len]) fun i hi => by
  rw [blessTo_nth, bless_nth]
  rw [blessTo_len] at hi
  have : i < 64 * wlen rs.length := by unfold wlen; omega
  simp [this]
theorem blessTo_step (rs bs : List Bool) (k : Nat) : wds (blessTo rs bs (k + 1)) = (wds (blessTo rs bs k)).set k ((wd rs k &&& (18446744073709551615 - wd bs k) : Nat) : Int) := by
  apply List.ext_getElem
  · simp [wds_len, blessTo_len]
  · intro j h1 h2
    rw [List.getElem_set]
    by_cases e : k = j
    · subst e
      rw [if_pos rfl, wds_get]
      have hw := wd_bless rs bs k
      rw [show 18446744073709551616 - (wd bs k + 1) = 18446744073709551615 - wd bs k by omega] at hw
      have hw2 : wd (blessTo rs bs (k + 1)) k = wd (bless rs bs) k := wd_eq (wd_lt _ _) fun j hj => by
        rw [wd_bit _ _ _ hj, blessTo_nth, bless_nth, decide_eq_true (show 64 * k + j < 64 * (k + 1) by omega)]; simp
      rw [hw2, hw]
    · rw [if_neg e, wds_get, wds_get]
      have hw2 : wd (blessTo rs bs (k + 1)) j = wd (blessTo rs bs k) j := wd_eq (wd_lt _ _) fun i hi => by
        rw [wd_bit _ _ _ hi, blessTo_nth, blessTo_nth]
        have : decide (64 * j + i < 64 * (k + 1)) = decide (64 * j + i < 64 * k) := by rw [decide_eq_decide]; omega
        rw [this]
      rw [hw2]
theorem blessTo_word (rs bs : List Bool) (k : Nat) : wd (blessTo rs bs k) k = wd rs k :=
  wd_eq (wd_lt _ _) fun j hj => by rw [wd_bit _ _ _ hj, blessTo_nth, decide_eq_false (show ¬ 64 * k + j < 64 * k by omega)]; simp

theorem flip {P : Program} {g : Nat} {args : Array Value} {w : World} {v : Ending} (h : Calls P g args w fun e w' => e = v ∧ w = w') : Calls P g args w fun e w' => e = v ∧ w' = w :=
  h.mono fun _ _ ⟨a, b⟩ => ⟨a, b.symm⟩

/-- What Less leaves. -/
def LessPost (b g : Nat) (rs bs : List Bool) (w : World) (e : Ending) (w' : World) : Prop := e = .returned (.int .i64 0) ∧ RowAt w' b g (bless rs bs) ∧ Chg (tch g rs) w w'
end Go.Proofs.YtlhajoamebfniaaDoor

/-! math/bits.TrailingZeros64 and bits.Row's from. -/
namespace Go.Proofs.YtlhajoamebfniaaDoor
open Go.RowKit Go.Shelf
attribute [local go_sem] Oper.semAt_some

/-- The package variable math/bits.deBruijn64tab holds its numbers. -/
def Tab (w : World) : Prop := ∀ j, j < 64 → w.cell? ⟨0, j, none⟩ = some (.int .u8 ((Lib.deBruijn64tab.getD j 0 : Nat) : Int))
theorem Tab.ext {w w' : World} (h : Tab w) (hx : Ext w w') : Tab w' := fun j hj => hx.cell (h j hj)

theorem tz_key (x a : Nat) (hx : x < 18446744073709551616) (hx0 : x ≠ 0) (hlow : x &&& (18446744073709551616 - x) = a) :
    IntKind.u64.wrap (bits BinOp.and IntKind.u64 (x : Int) (IntKind.u64.wrap (-(x : Int))) * 285870213051353865) / 288230376151711744 = ((a * 285870213051353865 % 18446744073709551616 / 288230376151711744 : Nat) : Int) := by
  have e1 : IntKind.u64.wrap (-(x : Int)) = ((18446744073709551616 - x : Nat) : Int) := by rw [IntKind.wrap_u64]; omega
  rw [e1, u64_and_nat x _ hx (by omega), hlow, IntKind.wrap_u64]
  omega
set_option maxHeartbeats 1000000 in
theorem tz_core (x k idx : Nat) {w : World} (hx0 : ((x : Int) == 0) = false)
    (key : IntKind.u64.wrap (bits BinOp.and IntKind.u64 (x : Int) (IntKind.u64.wrap (-(x : Int))) * 285870213051353865) / 288230376151711744 = (idx : Int))
    (hi : idx < 64) (hk : k < 64) (hcell : w.cell? ⟨0, idx, none⟩ = some (.int .u8 k)) :
    Calls Tryd.prog 89 #[.int .u64 x] w fun e w' => e = .returned (.int .i64 k) ∧ w = w' := by
  go_enter Tryd.func89, Tryd.ntmps89
  go_wp2_with (simp only [key])
  go_ret
  exact ⟨rfl, rfl⟩
theorem bits_TZ (x : Nat) {w : World} (hx : x < 18446744073709551616) (hx0 : x ≠ 0) (hT : Tab w) :
    Calls Tryd.prog 89 #[.int .u64 x] w fun e w' => e = .returned (.int .i64 ((Lib.ctz 64 x : Nat) : Int)) ∧ w = w' := by
  obtain ⟨hlow, hk⟩ := Lib.lowest_bit 64 x hx0 hx
  obtain ⟨hi, htab⟩ := Lib.deBruijn64_at _ hk
  have hcell := hT _ hi
  rw [htab] at hcell
  exact tz_core x _ _ (by simp; omega) (tz_key x _ hx hx0 hlow) hi hk hcell

set_option maxHeartbeats 1000000 in
theorem row_from (p : Option Addr) (i t : Int) {w : World} :
    Calls Tryd.prog 88 #[.pointer p, .int .i64 i, .int .u64 t] w fun e w' => e = .returned (.func (.func 104) #[] #[.pointer (some ⟨w.heap.size + 1, 0, none⟩), .pointer (some ⟨w.heap.size, 0, none⟩), .pointer (some ⟨w.heap.size + 1 + 1, 0, none⟩)]) ∧
      w' = ((w.alloc (.cells #[.pointer p] 64)).alloc (.cells #[.int .i64 i] 3)).alloc (.cells #[.int .u64 t] 120) := by
  go_enter Tryd.func88, Tryd.ntmps88
  go_wp2_with fail
  go_ret
  exact ⟨rfl, rfl⟩

end Go.Proofs.YtlhajoamebfniaaDoor

/-! Plain Lean on the walk from bit to bit: the words that bits.Row's from hands on, and what their lowest bit says. No program is named here. -/
namespace Go.Proofs.YtlhajoamebfniaaDoor

/-- Word k, turned, without what is ahead of bit i. -/
def wf (bs : List Bool) (is : Bool) (i k : Nat) : Nat := wsum (fun j => (bnth bs (64 * k + j) == is) && decide (i ≤ 64 * k + j)) 64
def turnOf (is : Bool) : Nat := if is then 0 else 18446744073709551615
def aheadOf (i k : Nat) : Nat := if k = i / 64 then 2 ^ (i % 64) - 1 else 0
theorem wf_lt (bs : List Bool) (is : Bool) (i k : Nat) : wf bs is i k < 18446744073709551616 := wsum_lt _ 64
theorem wf_bit (bs : List Bool) (is : Bool) (i k j : Nat) (hj : j < 64) : (wf bs is i k).testBit j = ((bnth bs (64 * k + j) == is) && decide (i ≤ 64 * k + j)) := by
  unfold wf; rw [wsum_bit]; simp [hj]
theorem turn_lt (is : Bool) : turnOf is < 18446744073709551616 := by cases is <;> decide
theorem ahead_lt (i k : Nat) : aheadOf i k < 18446744073709551616 := by
  unfold aheadOf
  have hp : 2 ^ (i % 64) < 2 ^ 64 := Nat.pow_lt_pow_right (by decide) (by omega)
  have e : (2 : Nat) ^ 64 = 18446744073709551616 := by decide
  split <;> omega
theorem ones_bit (j : Nat) (hj : j < 64) : (18446744073709551615 : Nat).testBit j = true := by
  have := Nat.testBit_two_pow_sub_one 64 j
  rw [show (2 : Nat) ^ 64 - 1 = 18446744073709551615 by decide] at this
  rw [this]; simp [hj]
theorem wf_code (bs : List Bool) (is : Bool) (i k : Nat) (hk : i / 64 ≤ k) : (wd bs k ^^^ turnOf is) &&& (18446744073709551615 - aheadOf i k) = wf bs is i k := by
  have ha := ahead_lt i k
  have e : (2 : Nat) ^ 64 = 18446744073709551616 := by decide
  have e2 : 18446744073709551615 - aheadOf i k = 2 ^ 64 - (aheadOf i k + 1) := by omega
  refine wsum_eq (n := 64) ?_ fun j hj => ?_
  · exact Nat.lt_of_le_of_lt Nat.and_le_left (Nat.xor_lt_two_pow (n := 64) (wd_lt bs k) (turn_lt is))
  · rw [Nat.testBit_and, Nat.testBit_xor, wd_bit _ _ _ hj, e2, Nat.testBit_two_pow_sub_succ (by exact ha)]
    have ht : (turnOf is).testBit j = !is := by
      cases is
      · exact ones_bit j hj
      · exact Nat.zero_testBit j
    have hd : (aheadOf i k).testBit j = !decide (i ≤ 64 * k + j) := by
      unfold aheadOf
      split
      · subst k
        rw [Nat.testBit_two_pow_sub_one, ← decide_not, decide_eq_decide]
        omega
      · rw [Nat.zero_testBit, decide_eq_true (by omega)]; rfl
    rw [ht, hd]
    simp only [hj, decide_true, Bool.true_and, Bool.not_not]
    cases bnth bs (64 * k + j) <;> cases is <;> rfl

theorem ctz_spec {x : Nat} (hx : x < 18446744073709551616) (h0 : x ≠ 0) : Lib.ctz 64 x < 64 ∧ x.testBit (Lib.ctz 64 x) = true ∧ ∀ j, j < Lib.ctz 64 x → x.testBit j = false := by
  have e : Lib.ctz 64 x = Lib.ctzFrom 64 x := by unfold Lib.ctz; rw [if_neg h0]
  obtain ⟨m, hm, hl⟩ := Lib.ctzFrom_spec 64 x (by omega) hx
  rw [e]
  generalize Lib.ctzFrom 64 x = c at *
  subst hm
  refine ⟨hl, ?_, fun j hj => ?_⟩
  · rw [Nat.testBit_two_pow_mul]; simp
  · rw [Nat.testBit_two_pow_mul]; simp; omega

/-- No bit of the kind from i on ahead of position m. -/
def NoHit (bs : List Bool) (is : Bool) (i m : Nat) : Prop := ∀ j : Nat, i ≤ j → j < m → j < bs.length → bnth bs j = !is
theorem bne_of {a b : Bool} (h : (a == b) = false) : a = !b := by cases a <;> cases b <;> simp_all
theorem NoHit.zero {bs : List Bool} {is : Bool} {i k : Nat} (h : NoHit bs is i (64 * k)) (hz : wf bs is i k = 0) : NoHit bs is i (64 * (k + 1)) := by
  intro j h1 h2 h3
  by_cases hk : j < 64 * k
  · exact h j h1 hk h3
  · have := wf_bit bs is i k (j - 64 * k) (by omega)
    rw [hz, Nat.zero_testBit, show 64 * k + (j - 64 * k) = j by omega, decide_eq_true h1, Bool.and_true] at this
    exact bne_of this.symm
theorem NoHit.hit {bs : List Bool} {is : Bool} {i k : Nat} (h : NoHit bs is i (64 * k)) (hz : wf bs is i k ≠ 0) :
    (64 * k + Lib.ctz 64 (wf bs is i k) < bs.length → IsNext bs i is ((64 * k + Lib.ctz 64 (wf bs is i k) : Nat) : Int) true) ∧
    (bs.length ≤ 64 * k + Lib.ctz 64 (wf bs is i k) → NoHit bs is i (64 * (k + 1))) := by
  obtain ⟨c1, c2, c3⟩ := ctz_spec (wf_lt bs is i k) hz
  generalize Lib.ctz 64 (wf bs is i k) = c at *
  rw [wf_bit _ _ _ _ _ c1, Bool.and_eq_true, decide_eq_true_eq] at c2
  have low : ∀ j : Nat, i ≤ j → j < 64 * k + c → j < bs.length → bnth bs j = !is := by
    intro j h1 h2 h3
    by_cases hk : j < 64 * k
    · exact h j h1 hk h3
    · have := c3 (j - 64 * k) (by omega)
      rw [wf_bit _ _ _ _ _ (by omega), show 64 * k + (j - 64 * k) = j by omega, decide_eq_true h1, Bool.and_true] at this
      exact bne_of this
  refine ⟨fun hl => .inl ⟨rfl, 64 * k + c, rfl, by omega, hl, by simpa using c2.1, fun j h1 h2 => low j (by omega) h2 (by omega)⟩, fun hl j h1 h2 h3 => low j h1 (by omega) h3⟩
theorem NoHit.none {bs : List Bool} {is : Bool} {i m : Nat} (h : NoHit bs is i m) (hm : bs.length ≤ m) : IsNext bs i is 0 false :=
  .inr ⟨rfl, rfl, fun j h1 h2 => h j (by omega) (by omega) h2⟩

end Go.Proofs.YtlhajoamebfniaaDoor

/-! The function that bits.Row's from hands back: its contract as an iterator. -/
namespace Go.Proofs.YtlhajoamebfniaaDoor
open Go.RowKit Go.Shelf
attribute [local go_sem] Oper.semAt_some

/-- What a round is handed: a word's number, and a word. -/
abbrev Item := { x : Nat × Nat // x.1 < 1024 ∧ x.2 < 18446744073709551616 }
def encItem (x : Item) : Array Value := #[.int .i64 (x.1.1 : Int), .int .u64 (x.1.2 : Int)]
def fitem (bs : List Bool) (is : Bool) (i j : Nat) : Item := if h : i / 64 + j < 1024 then ⟨(i / 64 + j, wf bs is i (i / 64 + j)), h, wf_lt _ _ _ _⟩ else ⟨(0, 0), by decide, by decide⟩
theorem fitem_fst {bs : List Bool} {is : Bool} {i j : Nat} (h : i / 64 + j < 1024) : (fitem bs is i j).1.1 = i / 64 + j := by unfold fitem; rw [dif_pos h]
theorem fitem_snd {bs : List Bool} {is : Bool} {i j : Nat} (h : i / 64 + j < 1024) : (fitem bs is i j).1.2 = wf bs is i (i / 64 + j) := by unfold fitem; rw [dif_pos h]

set_option maxRecDepth 100000 in
set_option maxHeartbeats 4000000 in
theorem from1_in (n : Nat) (hn : 1 ≤ n) (l n₀ Bi Br Bt b g i : Nat) (bs : List Bool) (is : Bool) (hi : i < bs.length) (hBi : Bi < n₀) (hBr : Br < n₀) (hBt : Bt < n₀) (hb : b < n₀) (hg : g < n₀) (J Jx : List Item → World → Prop) (hJd : ∀ pre W, J pre W → J pre W.drew)
    (hY : ∀ pre x W, J pre W → pre.length < wlen bs.length - i / 64 → YieldAt Fence.wide (n - 1) Tryd.prog l (encItem x) W fun e W' =>
      (e = .returned (.bool true) ∧ J (pre ++ [x]) W' ∧ Below n₀ W W') ∨ (e = .returned (.bool false) ∧ Jx (pre ++ [x]) W'))
    (W : World) (ci : W.cell? ⟨Bi, 0, none⟩ = some (.int .i64 i)) (cr : W.cell? ⟨Br, 0, none⟩ = some (.pointer (some ⟨b, 0, none⟩))) (ct : W.cell? ⟨Bt, 0, none⟩ = some (.int .u64 (turnOf is : Nat))) (hr : RowAt W b g bs) (h0 : J [] W) :
    CallsIn Fence.wide n Tryd.prog 104 #[.func (.yield l) #[] #[], .pointer (some ⟨Bi, 0, none⟩), .pointer (some ⟨Br, 0, none⟩), .pointer (some ⟨Bt, 0, none⟩)] W fun e W' => (∃ v, e = .returned v) ∧
      ((∃ ys, ys = upto (fitem bs is i) (wlen bs.length - i / 64) ∧ J ys W') ∨ (∃ pre, (∃ k, k ≤ wlen bs.length - i / 64 ∧ pre = upto (fitem bs is i) k) ∧ Jx pre W')) := by
  have h65 := hr.most
  have hwl : wlen bs.length ≤ 1024 := by unfold wlen; omega
  have hiw : i / 64 < wlen bs.length := by unfold wlen; omega
  have HW := Lib.hid (hr.word (by omega))
  obtain ⟨ra, rc, r0, _, r1, r2, rg⟩ := hr.ex
  obtain ⟨rfl, _⟩ := rg (by omega)
  have CI := Lib.hid ci; have CR := Lib.hid cr; have CT := Lib.hid ct; have C0 := Lib.hid r0
  have HY := Lib.hid hY
  unfold maxLen at r2
  have ah0 : IntKind.u64.wrap (IntKind.u64.wrap (2 ^ (i % 64)) - 1) = ((aheadOf i (i / 64) : Nat) : Int) := by
    have hp := pow_64 i
    have hp1 := Nat.two_pow_pos (i % 64)
    rw [pow_wrap]
    unfold aheadOf
    rw [if_pos rfl, show ((2 ^ (i % 64) : Nat) : Int) - 1 = ((2 ^ (i % 64) - 1 : Nat) : Int) by omega, wrapN (by omega)]
  clear hr rg hY
  refine callsIn_of_wp Tryd.func104 rfl trivial ?_ rfl
  simp only [Tryd.ntmps104, List.size_toArray, List.length_cons, List.length_nil, Nat.reduceAdd, Nat.reduceSub, Array.replicate_succ, Array.replicate_zero, List.push_toArray, List.append_toArray, List.nil_append, List.cons_append]
  gi_wp2
  clear ci cr ct r0 ah0
  gi_loopw [5, 6] (fun a k wr => ∃ m : Nat, m ≤ wlen bs.length - i / 64 ∧ a = .int .u64 ((aheadOf i (i / 64 + m) : Nat) : Int) ∧ k = .int .i64 ((i / 64 + m : Nat) : Int) ∧ J (upto (fitem bs is i) m) wr ∧ Below n₀ W wr)
    (fun _ k _ => wlen bs.length - (intOf k).toNat)
  case atStart => exact ⟨0, Nat.zero_le _, by rw [Nat.add_zero], by simp, h0, Below.refl _ _⟩
  case round =>
    obtain ⟨m, hm, rfl, rfl, hJ, hB⟩ := hrel
    have ci := (hB.cell (p := ⟨Bi, 0, none⟩) hBi).trans CI.out
    have cr := (hB.cell (p := ⟨Br, 0, none⟩) hBr).trans CR.out
    have ct := (hB.cell (p := ⟨Bt, 0, none⟩) hBt).trans CT.out
    have r0 := (hB.cell (p := ⟨b, 0, none⟩) hb).trans C0.out
    have HJ := Lib.hid hJ
    obtain ⟨k, hk⟩ : ∃ k, i / 64 + m = k := ⟨_, rfl⟩
    rw [hk]
    by_cases hlt : k < wlen bs.length
    · have hw := (hB.cell (p := ⟨g, k, none⟩) hg).trans (HW.out k hlt)
      have WC := Lib.hid (wf_code bs is i k (by omega))
      have al := Lib.hid (ahead_lt i k)
      have wl := Lib.hid (wd_lt bs k)
      have tl := Lib.hid (turn_lt is)
      have hy0 := HY.out _ (fitem bs is i m) wr.drew (hJd _ _ hJ) (by rw [upto_length]; omega)
      have ef : encItem (fitem bs is i m) = #[.int .i64 (k : Int), .int .u64 ((wf bs is i k : Nat) : Int)] := by
        unfold encItem; rw [fitem_fst (by omega), fitem_snd (by omega), hk]
      have code : bits .andNot .u64 (bits .xor .u64 ((wd bs k : Nat) : Int) ((turnOf is : Nat) : Int)) ((aheadOf i k : Nat) : Int) = ((wf bs is i k : Nat) : Int) := by
        rw [u64_xor_nat _ _ wl.out tl.out, u64_andNot_nat _ _ (Nat.xor_lt_two_pow (n := 64) wl.out tl.out) al.out, WC.out]
      rw [ef] at hy0
      generalize wf bs is i k = v at *
      generalize turnOf is = t at *
      generalize aheadOf i k = ah at *
      generalize wd bs k = x at *
      obtain ⟨fn, tmps, assign, body, hy, hR⟩ := hy0
      have HHk := Lib.hid hk
      clear hk ef WC al wl tl hJ
      gi_wp2
      have hR2 := hR.mono (R' := fun e W' => ∃ bb : Bool, e = .returned (.bool bb) ∧ Hid ((bb = true ∧ J (upto (fitem bs is i) m ++ [fitem bs is i m]) W' ∧ Below n₀ wr.drew W') ∨ (bb = false ∧ Jx (upto (fitem bs is i) m ++ [fitem bs is i m]) W'))) (fun e W' h => by
        rcases h with ⟨rfl, h1, h2⟩ | ⟨rfl, h1⟩
        · exact ⟨true, rfl, .inl ⟨rfl, h1, h2⟩⟩
        · exact ⟨false, rfl, .inr ⟨rfl, h1⟩⟩)
      clear hR
      gi_region_with (refine hR2.mono ?_; rintro e W3 ⟨bb, rfl, hbb⟩)
      all_goals
        clear hR2 hy code
        rcases hbb.out with ⟨rfl, hJ3, hk3⟩ | ⟨rfl, hJx3⟩
        · have HJ3 := Lib.hid hJ3; have HK3 := Lib.hid hk3
          clear hbb hJ3 hk3
          gi_wp2
          go_roundw
          case rel => exact ⟨m + 1, by have := HHk.out; omega, by
            rw [← Nat.add_assoc, HHk.out]
            unfold aheadOf
            rw [if_neg (by have := HHk.out; omega)]; rfl, by rw [← Nat.add_assoc, HHk.out]; go_num, by rw [upto_succ]; exact HJ3.out, hB.trans (((Below.refl _ _).drew).trans HK3.out)⟩
          case measure => simp [intOf]; omega
        · have HX3 := Lib.hid hJx3
          clear hbb hJx3
          gi_wp2
          refine bodyPost_ret (results_none rfl _ _ _) rfl ?_
          exact ⟨⟨_, rfl⟩, .inr ⟨_, ⟨m + 1, by have := HHk.out; omega, (upto_succ _ _).symm⟩, HX3.out⟩⟩
    · obtain rfl : m = wlen bs.length - i / 64 := by omega
      have hke : k = wlen bs.length := by omega
      have HHk := Lib.hid hk
      subst hke
      clear hk
      gi_wp2
      go_end0
      exact ⟨⟨_, rfl⟩, .inl ⟨_, rfl, HJ.out⟩⟩

end Go.Proofs.YtlhajoamebfniaaDoor
