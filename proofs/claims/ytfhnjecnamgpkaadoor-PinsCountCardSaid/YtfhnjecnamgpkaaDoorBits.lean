/-
  bits.Row's none, Len, has, Get, Set, New: what each hands back, and what becomes of memory.
-/
import Derived.Test.YtfhnjecnamgpkaaDoorProg
import Derived.Test.YtfhnjecnamgpkaaDoorRow
import Derived.Test.YtfhnjecnamgpkaaDoorEnt
import Derived.WalkKit
import Derived.WalkSpells
import Derived.WalkLawsBesides
import Derived.Outline
import Derived.BigQuiet
import Derived.Deep.QuietTactic
import Derived.Deep.RegionHeld3
import Derived.RegionTactic
import Derived.BigRegion
import Derived.Laws.BitsAllLaws
namespace Go.Proofs.YtfhnjecnamgpkaaDoor
open Go.RowKit

/-- A row that is none (m), or one (not m). -/
def NoneAt (w : World) (p : Option Addr) (m : Bool) : Prop := (p = none ∧ m = true) ∨ ∃ b, p = some ⟨b, 0, none⟩ ∧ w.cell? ⟨b, 2, none⟩ = some (.bool (!m))
theorem RowAt.isNone {w : World} {b g : Nat} {bs : List Bool} (h : RowAt w b g bs) : NoneAt w (some ⟨b, 0, .none⟩) false := .inr ⟨b, rfl, h.made⟩
theorem NoneAt.chg {P : Nat → Prop} {w w' : World} {p : Option Addr} {m : Bool} (h : NoneAt w p m) (hx : Chg P w w') (hp : ∀ b, p = some ⟨b, 0, .none⟩ → ¬ P b) : NoneAt w' p m := by
  rcases h with h | ⟨b, rfl, hc⟩
  · exact .inl h
  · exact .inr ⟨b, rfl, hx.cell (hp b rfl) hc⟩
theorem NoneAt.ext {w w' : World} {p : Option Addr} {m : Bool} (h : NoneAt w p m) (hx : Ext w w') : NoneAt w' p m := h.chg (P := fun _ => False) (Chg.of_ext hx) fun _ _ a => a

set_option maxHeartbeats 1000000 in
theorem row_none {p : Option Addr} (m : Bool) {w : World} (h : NoneAt w p m) : Calls Tryd.prog 45 #[.pointer p] w fun e w' => e = .returned (.bool m) ∧ w = w' := by
  rcases h with ⟨rfl, rfl⟩ | ⟨b, rfl, hc⟩
  · go_enter Tryd.func45, Tryd.ntmps45
    go_wp2_with fail
    go_ret
    exact ⟨rfl, rfl⟩
  · cases m
    · replace hc : w.cell? ⟨b, 2, .none⟩ = some (.bool true) := hc
      go_enter Tryd.func45, Tryd.ntmps45
      go_wp2_with fail
      go_ret
      exact ⟨rfl, rfl⟩
    · replace hc : w.cell? ⟨b, 2, .none⟩ = some (.bool false) := hc
      go_enter Tryd.func45, Tryd.ntmps45
      go_wp2_with fail
      go_ret
      exact ⟨rfl, rfl⟩

set_option maxHeartbeats 1000000 in
theorem row_Len_no {p : Option Addr} {w : World} (h : NoneAt w p true) : Calls Tryd.prog 18 #[.pointer p] w fun e w' => e = .returned (.int .i64 0) ∧ w = w' := by
  go_enter Tryd.func18, Tryd.ntmps18
  go_wp2_with fail
  refine (row_none true h).mono ?_
  rintro e w1000 ⟨rfl, rfl⟩
  go_wp2_with fail
  go_ret
  exact ⟨rfl, rfl⟩
set_option maxHeartbeats 1000000 in
theorem row_Len {b g : Nat} (bs : List Bool) {w : World} (h : RowAt w b g bs) : Calls Tryd.prog 18 #[.pointer (some ⟨b, 0, none⟩)] w fun e w' => e = .returned (.int .i64 bs.length) ∧ w = w' := by
  have hm := h.many
  go_enter Tryd.func18, Tryd.ntmps18
  go_wp2_with fail
  refine (row_none false h.isNone).mono ?_
  rintro e w1000 ⟨rfl, rfl⟩
  go_wp2_with fail
  go_ret
  exact ⟨rfl, rfl⟩

set_option maxHeartbeats 1000000 in
theorem row_has_no {p : Option Addr} {i : Int} {w : World} (h : NoneAt w p true) : Calls Tryd.prog 49 #[.pointer p, .int .i64 i] w fun e w' => e = .returned (.bool false) ∧ w = w' := by
  by_cases hi : i < 0
  · go_enter Tryd.func49, Tryd.ntmps49
    go_wp2_with fail
    go_ret
    exact ⟨rfl, rfl⟩
  · have hi0 : 0 ≤ i := by omega
    go_enter Tryd.func49, Tryd.ntmps49
    go_wp2_with fail
    refine (row_Len_no h).mono ?_
    rintro e w1000 ⟨rfl, rfl⟩
    go_wp2_with fail
    go_ret
    exact ⟨ret_bool (decide_eq_false (by omega)), rfl⟩
set_option maxHeartbeats 1000000 in
theorem row_has {b g : Nat} {i : Int} (bs : List Bool) (r : Bool) {w : World} (h : RowAt w b g bs) (hr : decide (0 ≤ i ∧ i < bs.length) = r) : Calls Tryd.prog 49 #[.pointer (some ⟨b, 0, none⟩), .int .i64 i] w fun e w' => e = .returned (.bool r) ∧ w = w' := by
  have HR := Lib.hid hr; clear hr
  by_cases hi : i < 0
  · go_enter Tryd.func49, Tryd.ntmps49
    go_wp2_with fail
    go_ret
    exact ⟨ret_bool (by rw [← HR.out, decide_eq_false]; omega), rfl⟩
  · have hi0 : 0 ≤ i := by omega
    go_enter Tryd.func49, Tryd.ntmps49
    go_wp2_with fail
    refine (row_Len bs h).mono ?_
    rintro e w1000 ⟨rfl, rfl⟩
    go_wp2_with fail
    go_ret
    exact ⟨ret_bool (by rw [← HR.out, Bool.eq_iff_iff]; simp [hi0]), rfl⟩

/-! ### Get, Set -/
theorem bit_at {x i : Nat} (hx : x < 18446744073709551616) : ((bits .and .u64 ((x : Int) / 2 ^ i) 1 == 1) : Bool) = x.testBit i := by
  have e1 : ((x : Int) / 2 ^ i) = ((x / 2 ^ i : Nat) : Int) := by simp
  rw [e1, show (1 : Int) = ((1 : Nat) : Int) from rfl, u64_and_nat _ _ (Nat.lt_of_le_of_lt (Nat.div_le_self _ _) hx) (by decide), Nat.testBit, Nat.shiftRight_eq_div_pow, Nat.and_comm 1, Nat.and_one_is_mod]
  rcases Nat.mod_two_eq_zero_or_one (x / 2 ^ i) with e | e <;> rw [e] <;> rfl
def bget (bs : List Bool) (i : Int) : Bool := decide (0 ≤ i) && bnth bs i.toNat
def bsetR (bs : List Bool) (i : Int) (is : Bool) : List Bool × Int := if 0 ≤ i ∧ i < bs.length then (bs.set i.toNat is, 0) else (bs, 2)
theorem bget_no {bs : List Bool} {i : Int} (h : ¬ (0 ≤ i ∧ i < bs.length)) : bget bs i = false := by
  unfold bget
  by_cases h0 : 0 ≤ i
  · rw [bnth_out (by omega)]; simp
  · simp [h0]
theorem bget_nat (bs : List Bool) (i : Nat) : bget bs i = bnth bs i := by unfold bget; simp
theorem bsetR_yes {bs : List Bool} {i : Nat} {is : Bool} (h : i < bs.length) : bsetR bs i is = (bs.set i is, 0) := by unfold bsetR; rw [if_pos (by omega), Int.toNat_natCast]
theorem bsetR_no {bs : List Bool} {i : Int} {is : Bool} (h : ¬ (0 ≤ i ∧ i < bs.length)) : bsetR bs i is = (bs, 2) := by unfold bsetR; rw [if_neg h]

set_option maxHeartbeats 1000000 in
theorem row_Get_no {p : Option Addr} {i : Int} {w : World} (h : NoneAt w p true) : Calls Tryd.prog 17 #[.pointer p, .int .i64 i] w fun e w' => e = .returned (.bool false) ∧ w = w' := by
  go_enter Tryd.func17, Tryd.ntmps17
  go_wp2_with fail
  refine (row_has_no h).mono ?_
  rintro e w1000 ⟨rfl, rfl⟩
  go_wp2_with fail
  go_ret
  exact ⟨rfl, rfl⟩
set_option maxHeartbeats 1000000 in
theorem row_Get {b g : Nat} {i : Int} (bs : List Bool) (r : Bool) {w : World} (h : RowAt w b g bs) (hr : bget bs i = r) : Calls Tryd.prog 17 #[.pointer (some ⟨b, 0, none⟩), .int .i64 i] w fun e w' => e = .returned (.bool r) ∧ w = w' := by
  have HR := Lib.hid hr; clear hr
  by_cases hi : 0 ≤ i ∧ i < bs.length
  · have D := Lib.hid (show decide (0 ≤ i ∧ i < bs.length) = true from decide_eq_true hi)
    obtain ⟨n, rfl⟩ := Int.eq_ofNat_of_zero_le hi.1
    have hn : n < bs.length := by omega
    have h65 := h.most
    have hw := h.word (by omega) (n / 64) (by unfold wlen; omega)
    obtain ⟨a, cap, h0, hA, h1, h2, hg⟩ := h.ex
    obtain ⟨rfl, _⟩ := hg (by omega)
    have hwl : n / 64 < wlen bs.length := by unfold wlen; omega
    have H := Lib.hid h
    clear hA hi h hg
    go_enter Tryd.func17, Tryd.ntmps17
    go_wp2_with fail
    refine (row_has bs true H.out D.out).mono ?_
    rintro e w1000 ⟨rfl, rfl⟩
    go_wp2_with fail
    go_ret
    exact ⟨ret_bool (by rw [← HR.out, bget_nat, bit_at (wd_lt _ _), wd_bit _ _ _ (by omega)]; congr 1; omega), rfl⟩
  · have D := Lib.hid (show decide (0 ≤ i ∧ i < bs.length) = false from decide_eq_false hi)
    have HN := Lib.hid (bget_no hi)
    clear hi
    go_enter Tryd.func17, Tryd.ntmps17
    go_wp2_with fail
    refine (row_has bs false h D.out).mono ?_
    rintro e w1000 ⟨rfl, rfl⟩
    go_wp2_with fail
    go_ret
    exact ⟨ret_bool (by rw [← HR.out, HN.out]), rfl⟩

set_option maxHeartbeats 1000000 in
theorem row_Set_no {p : Option Addr} {i : Int} {is : Bool} {w : World} (h : NoneAt w p true) : Calls Tryd.prog 27 #[.pointer p, .int .i64 i, .bool is] w fun e w' => e = .returned (.int .i64 1) ∧ w = w' := by
  go_enter Tryd.func27, Tryd.ntmps27
  go_wp2_with fail
  refine (row_none true h).mono ?_
  rintro e w1000 ⟨rfl, rfl⟩
  go_wp2_with fail
  go_ret
  exact ⟨rfl, rfl⟩

theorem pow_wrap (n : Nat) : IntKind.u64.wrap (2 ^ (n % 64)) = ((2 ^ (n % 64) : Nat) : Int) := by
  have hp : 2 ^ (n % 64) < 2 ^ 64 := Nat.pow_lt_pow_right (by decide) (by omega)
  have e : (2 : Nat) ^ 64 = 18446744073709551616 := by decide
  rw [IntKind.wrap_u64, show ((2 : Int) ^ (n % 64)) = ((2 ^ (n % 64) : Nat) : Int) by simp]
  exact Int.emod_eq_of_lt (Int.natCast_nonneg _) (by omega)
theorem pow_64 (n : Nat) : 2 ^ (n % 64) < 18446744073709551616 := show 2 ^ (n % 64) < 2 ^ 64 from Nat.pow_lt_pow_right (by decide) (by omega)
theorem set_true {bs : List Bool} {n : Nat} (h : n < bs.length) : bits .or .u64 ((wd bs (n / 64) : Nat) : Int) (IntKind.u64.wrap (2 ^ (n % 64))) = ((wd (bs.set n true) (n / 64) : Nat) : Int) := by
  rw [pow_wrap, u64_or_nat _ _ (wd_lt _ _) (pow_64 n), wd_set_true h]
theorem set_false {bs : List Bool} {n : Nat} (h : n < bs.length) : bits .andNot .u64 ((wd bs (n / 64) : Nat) : Int) (IntKind.u64.wrap (2 ^ (n % 64))) = ((wd (bs.set n false) (n / 64) : Nat) : Int) := by
  rw [pow_wrap, u64_andNot_nat _ _ (wd_lt _ _) (pow_64 n), wd_set_false h, show 18446744073709551616 - (2 ^ (n % 64) + 1) = 18446744073709551615 - 2 ^ (n % 64) by omega]

/-- What Set leaves. -/
def SetPost (b g : Nat) (bs bs' : List Bool) (q : Int) (w : World) (e : Ending) (w' : World) : Prop := e = .returned (.int .i64 q) ∧ RowAt w' b g bs' ∧ Chg (tch g bs) w w'
set_option maxHeartbeats 2000000 in
theorem row_Set {b g : Nat} {i : Int} {is : Bool} (bs bs' : List Bool) (q : Int) {w : World} (h : RowAt w b g bs) (hr : bsetR bs i is = (bs', q)) :
    Calls Tryd.prog 27 #[.pointer (some ⟨b, 0, none⟩), .int .i64 i, .bool is] w (SetPost b g bs bs' q w) := by
  by_cases hi : 0 ≤ i ∧ i < bs.length
  · have D := Lib.hid (show decide (0 ≤ i ∧ i < bs.length) = true from decide_eq_true hi)
    obtain ⟨n, rfl⟩ := Int.eq_ofNat_of_zero_le hi.1
    have hn : n < bs.length := by omega
    rw [bsetR_yes hn] at hr
    cases hr
    have h65 := h.most
    have hw := h.word (by omega) (n / 64) (by unfold wlen; omega)
    obtain ⟨a, cap, h0, hA, h1, h2, hg⟩ := h.ex
    obtain ⟨rfl, hf⟩ := hg (by omega)
    have hfz := hf (n / 64)
    have hwl : n / 64 < wlen bs.length := by unfold wlen; omega
    have hwi : ((n : Int) / 64) < ((wlen bs.length : Nat) : Int) := by omega
    have H := Lib.hid h
    clear hA hi h hg hf
    cases is
    · have SW := Lib.hid (set_false hn)
      have HS := Lib.hid (wds_set (b := false) hn)
      go_enter Tryd.func27, Tryd.ntmps27
      go_wp2_with fail
      refine (row_none false H.out.isNone).mono ?_
      rintro e w1000 ⟨rfl, rfl⟩
      go_wp2_with fail
      refine (row_has bs true H.out D.out).mono ?_
      rintro e w1000 ⟨rfl, rfl⟩
      go_wp2_with fail
      go_wp2_with fail
      go_region
      go_wp2_with fail
      go_ret
      rw [SW.out]
      exact ⟨rfl, (H.out.setWord (by omega) (by simp) hwl HS.out).drew, (Chg.word (by omega) _).drew⟩
    · have SW := Lib.hid (set_true hn)
      have HS := Lib.hid (wds_set (b := true) hn)
      go_enter Tryd.func27, Tryd.ntmps27
      go_wp2_with fail
      refine (row_none false H.out.isNone).mono ?_
      rintro e w1000 ⟨rfl, rfl⟩
      go_wp2_with fail
      refine (row_has bs true H.out D.out).mono ?_
      rintro e w1000 ⟨rfl, rfl⟩
      go_wp2_with fail
      go_wp2_with fail
      go_region
      go_wp2_with fail
      go_ret
      rw [SW.out]
      exact ⟨rfl, (H.out.setWord (by omega) (by simp) hwl HS.out).drew, (Chg.word (by omega) _).drew⟩
  · have D := Lib.hid (show decide (0 ≤ i ∧ i < bs.length) = false from decide_eq_false hi)
    rw [bsetR_no hi] at hr
    cases hr
    clear hi
    have H := Lib.hid h
    clear h
    go_enter Tryd.func27, Tryd.ntmps27
    go_wp2_with fail
    refine (row_none false H.out.isNone).mono ?_
    rintro e w1000 ⟨rfl, rfl⟩
    go_wp2_with fail
    refine (row_has bs false H.out D.out).mono ?_
    rintro e w1000 ⟨rfl, rfl⟩
    go_wp2_with fail
    go_ret
    exact ⟨rfl, H.out, Chg.refl _ _⟩

end Go.Proofs.YtfhnjecnamgpkaaDoor
