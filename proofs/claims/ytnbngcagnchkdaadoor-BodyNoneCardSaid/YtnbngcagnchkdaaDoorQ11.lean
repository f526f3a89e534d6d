/-
  Merged texts: Ref03, Ref03b, Ref03c, Law11c, Law11d.
-/
import Derived.Test.YtnbngcagnchkdaaDoorQ06
import Derived.Test.YtnbngcagnchkdaaDoorQ10
set_option linter.unusedVariables false
set_option linter.unusedSimpArgs false
/-! commonageref03: bit, with, may, Get, fits, Set, All, Pack, Unpack, Same: each hands back what field's own plain function computes. -/
namespace Go.Proofs.YtnbngcagnchkdaaDoor
open Go.RowKit

theorem flip {P : Program} {g : Nat} {args : Array Value} {w : World} {v : Ending} (h : Calls P g args w fun e w' => e = v ∧ w = w') : Calls P g args w fun e w' => e = v ∧ w' = w :=
  h.mono fun _ _ ⟨a, b⟩ => ⟨a, b.symm⟩

theorem bit_code {u i : Int} (h0 : 0 ≤ u) : (((u / 2 ^ i.toNat).tmod 2 == 1) : Bool) = u.toNat.testBit i.toNat := by
  obtain ⟨n, rfl⟩ := Int.eq_ofNat_of_zero_le h0
  rw [div_pow_cast, Int.toNat_natCast, Nat.testBit_eq_decide_div_mod_eq, Bool.eq_iff_iff, Int.tmod_eq_emod_of_nonneg (Int.natCast_nonneg _), beq_iff_eq, decide_eq_true_iff]
  omega
theorem xor_code {u i : Int} (h0 : 0 ≤ u) (hu : u < 18446744073709551616) (h1 : 0 ≤ i) (h2 : i < 64) : bits .xor .u64 u (IntKind.u64.wrap (2 ^ i.toNat)) = ((u.toNat ^^^ 2 ^ i.toNat : Nat) : Int) := by
  obtain ⟨n, rfl⟩ := Int.eq_ofNat_of_zero_le h0
  have hn : n < 2 ^ 64 := lt64 h0 hu
  have e : (2 : Nat) ^ 64 = 18446744073709551616 := by decide
  have hp : (2 : Nat) ^ i.toNat < 2 ^ 64 := Nat.pow_lt_pow_right (by decide) (by omega)
  have c : ((2 : Int) ^ i.toNat) = ((2 ^ i.toNat : Nat) : Int) := by simp
  have w1 : ((2 ^ i.toNat : Nat) : Int) % 18446744073709551616 = ((2 ^ i.toNat : Nat) : Int) := Int.emod_eq_of_lt (Int.natCast_nonneg _) (of64 hp).2
  rw [c, IntKind.wrap_u64, w1, u64_xor_nat _ _ (by omega) (by rw [e] at hp; exact hp), Int.toNat_natCast]

theorem fwith_same {u i : Nat} {b : Bool} (h : u.testBit i = b) : fwith u i b = u := by unfold fwith; rw [if_pos h]
theorem fwith_other {u i : Nat} {b c : Bool} (h : u.testBit i = c) (hc : c ≠ b) : fwith u i b = u ^^^ 2 ^ i := by unfold fwith; rw [if_neg (by rw [h]; exact hc)]

end Go.Proofs.YtnbngcagnchkdaaDoor

/-! commonageref03: All, Pack, Unpack, Same. -/
namespace Go.Proofs.YtnbngcagnchkdaaDoor
open Go.RowKit

def refAll (xs : List Int) : Int := if wokB xs = true then fr xs xs.length else -1
theorem refAll_yes {xs : List Int} (h : Wok xs) : refAll xs = fr xs xs.length := by unfold refAll; rw [if_pos (wokB_iff.2 h)]
theorem refAll_no {xs : List Int} (h : ¬ Wok xs) : refAll xs = -1 := by unfold refAll; rw [if_neg fun c => h (wokB_iff.1 c)]

set_option maxHeartbeats 2000000 in
theorem ref03_Same {a b : Option Addr} {ca cb : Nat} (l m : List Int) (r : Bool) {w : World} (hr : decide (l = m) = r) (h : At .u64 w a l) (h' : At .u64 w b m) (hl : l.length ≤ maxLen) (hm : m.length ≤ maxLen) :
    Calls Tryd.prog 24 #[.slice a l.length ca, .slice b m.length cb] w fun e w' => e = .returned (.bool r) ∧ Ext w w' := by
  unfold maxLen at hl hm
  have H := Lib.hid h; have H' := Lib.hid h'; have HR := Lib.hid hr; clear h h' hr
  by_cases hlen : l.length = m.length
  · have hb : (l.length != m.length) = false := by simp [hlen]
    have hb2 : ((l.length : Int) != (m.length : Int)) = false := by simp [hlen]
    have HL := Lib.hid hlen; clear hlen
    go_enter Tryd.func24, Tryd.ntmps24
    go_wp2_with fail
    go_loopw [5] (fun i wr => ∃ k : Nat, k ≤ l.length ∧ i = .int .i64 k ∧ Hid (∀ j, j < k → nth l j = nth m j) ∧ Ext w wr) (fun i _ => l.length - (intOf i).toNat)
    case atStart => exact ⟨0, Nat.zero_le _, rfl, fun j hj => absurd hj (Nat.not_lt_zero _), Ext.refl w⟩
    case round =>
      obtain ⟨k, hk, rfl, HJ, hx⟩ := hrel
      by_cases hlt : k < l.length
      · have hlt2 : k < m.length := by have := HL.out; omega
        obtain ⟨x, o, rfl, hc⟩ := H.out.pos (by omega)
        obtain ⟨y, p, rfl, hc'⟩ := H'.out.pos (by omega)
        have z1 := hx.cell (hc k hlt)
        have z2 := hx.cell (hc' k hlt2)
        clear hc hc'
        by_cases he : nth l k = nth m k
        · have HJ2 : Hid (∀ j, j < k + 1 → nth l j = nth m j) := fun j hj => by
            rcases Nat.lt_or_ge j k with c1 | c1
            · exact HJ j c1
            · obtain rfl : j = k := by omega
              exact he
          rw [← he] at z2
          clear he
          generalize nth l k = u at *
          go_wp2_with fail
          go_quiet (fail)
          go_wp2_with fail
          go_roundw
          case rel => exact ⟨k + 1, by omega, by go_num, HJ2, hx.drewN _⟩
          case measure => simp [intOf]; omega
        · have HE := Lib.hid he
          have hne : (nth l k != nth m k) = true := by simpa using he
          clear he
          generalize hu : nth l k = u at *
          generalize hv : nth m k = v at *
          have HU := Lib.hid hu; have HV := Lib.hid hv; clear hu hv
          go_wp2_with fail
          go_quiet (fail)
          go_wp2_with fail
          go_ret
          exact ⟨ret_bool (by rw [← HR.out, decide_eq_false]; rintro rfl; exact HE.out (by rw [← HU.out, ← HV.out])), hx.drewN _⟩
      · obtain rfl : k = l.length := by omega
        go_wp2_with fail
        go_ret
        exact ⟨ret_bool (by rw [← HR.out, decide_eq_true]; exact nth_ext HL.out HJ), hx⟩
  · have hb : (l.length != m.length) = true := by simpa using hlen
    have hb2 : ((l.length : Int) != (m.length : Int)) = true := by simp; omega
    have HL := Lib.hid hlen; clear hlen
    go_enter Tryd.func24, Tryd.ntmps24
    go_wp2_with fail
    go_ret
    exact ⟨ret_bool (by rw [← HR.out, decide_eq_false]; rintro rfl; exact HL.out rfl), Ext.refl w⟩

end Go.Proofs.YtnbngcagnchkdaaDoor

/-! commonageref03: Unpack; commonagelaw03.awake. -/
namespace Go.Proofs.YtnbngcagnchkdaaDoor
open Go.RowKit

end Go.Proofs.YtnbngcagnchkdaaDoor

/-! commonagelaw11: told. (Printed by wip/gen11t.py.) -/
namespace Go.Proofs.YtnbngcagnchkdaaDoor
open Go.RowKit
variable {P : Nat → Prop} {w w' W : World} {bb mm gw gb pb gp d cap lb lc fb fc mb mc cc : Nat} {ca : Option Addr} {c : Conf} {t : Nat} {ws : List Int} {s k : Int}

theorem oneR_le {F : Nat → Int × Int} : ∀ n, (oneR F n).1.length ≤ n
  | 0 => Nat.le_refl _
  | n + 1 => by
    have := oneR_le (F := F) n
    show (if (oneR F n).2 = 0 then (if (F n).2 = 0 then ((oneR F n).1 ++ [(F n).1], (0 : Int)) else ([], (F n).2)) else ([], (oneR F n).2)).1.length ≤ n + 1
    split
    · split
      · simp; omega
      · exact Nat.zero_le _
    · exact Nat.zero_le _
theorem bRefs_le : (bRefs c t ws s).1.length ≤ 63 := by
  unfold bRefs
  split
  · rename_i h
    have ok := (bHead_ok h).2.2.1.1
    have := oneR_le (F := fun j => bRef c t ws s j) (bHead c t ws s).1.r.toNat
    have o1 := ok.2.1; have o2 := ok.2.2.2.1
    omega
  · exact Nat.zero_le _
theorem bWords_le : (bWords c t ws s).1.length ≤ 63 := by
  unfold bWords
  split
  · rename_i h
    have ok := (bHead_ok h).2.2.1.1
    have := oneR_le (F := fun j => bWord c t ws s ((bHead c t ws s).1.r + j)) (bHead c t ws s).1.w.toNat
    have o1 := ok.2.2.1; have o2 := ok.2.2.2.2; have o3 := ok.2.1
    omega
  · exact Nat.zero_le _

end Go.Proofs.YtnbngcagnchkdaaDoor

/-! commonagelaw11: does: what it leaves. (Printed by wip/gen11x.py.) -/
namespace Go.Proofs.YtnbngcagnchkdaaDoor
open Go.RowKit
variable {P : Nat → Prop} {w w' W : World} {bb mm gw gb pb gp d cap lb lc fb fc mb mc cc : Nat} {ca : Option Addr} {c : Conf} {t : Nat} {ws ws' : List Int} {wh s i to x k : Int} {hd : Hd}

/-- What an act leaves of the words. -/
def actB (c : Conf) (t : Nat) (ws : List Int) (wh s i to x : Int) (hd : Hd) : List Int :=
  if wh % 7 = 2 then (bSetRef c t ws s i to).1 else if wh % 7 = 3 then (bSetWord c t ws s i x).1 else if wh % 7 = 4 then ws else if wh % 7 = 5 then ws else if wh % 7 = 6 then (bWipe c t ws s).1 else (bMake c t ws s hd).1
theorem bd8 (w : World) {z : Nat} (hz : w.heap.size = z) (d lb fb mb lc fc mc cc cap : Nat) (ca : Option Addr) (c : Conf) (t : Nat) (wh s i to x : Int) (hd : Hd) :
    ∃ W, ((w.alloc (.cells #[.slice (some ⟨d, 0, none⟩) c.ts.length cap, .int .i64 t, .slice (some ⟨lb, 0, none⟩) (nS c t) lc, .slice (some ⟨fb, 0, none⟩) (nG c t) fc, .slice (some ⟨mb, 0, none⟩) (nG c t) mc, .int .i64 (wordsOf c t), .slice ca c.cl.length cc] 40)).alloc (.cells #[.int .u8 wh, .int .i64 s, .int .i64 i, .int .i64 to, .int .u64 x, .int .i64 hd.c, .int .i64 hd.r, .int .i64 hd.w] 30)).alloc (.cells #[.slice none 0 0, .int .i64 0, .slice none 0 0, .slice none 0 0, .slice none 0 0, .int .i64 0, .slice none 0 0] 40) = W ∧ BoxG W z [.slice (some ⟨d, 0, none⟩) c.ts.length cap, .int .i64 t, .slice (some ⟨lb, 0, none⟩) (nS c t) lc, .slice (some ⟨fb, 0, none⟩) (nG c t) fc, .slice (some ⟨mb, 0, none⟩) (nG c t) mc, .int .i64 (wordsOf c t), .slice ca c.cl.length cc] ∧ BoxG W (z + 1) [.int .u8 wh, .int .i64 s, .int .i64 i, .int .i64 to, .int .u64 x, .int .i64 hd.c, .int .i64 hd.r, .int .i64 hd.w] ∧ BoxG W (z + 2) [.slice none 0 0, .int .i64 0, .slice none 0 0, .slice none 0 0, .slice none 0 0, .int .i64 0, .slice none 0 0] ∧ Ext w W :=
  ⟨_, rfl, (BoxG.new w _ _ hz).ext (((Ext.refl _).alloc _).alloc _), (BoxG.new (w.alloc _) _ _ (by simp [hz])).ext ((Ext.refl _).alloc _), BoxG.new _ _ _ (by simp [hz]), (((Ext.refl w).alloc _).alloc _).alloc _⟩
theorem chg7on {Q : Nat → Prop} {a : World} {z : Nat} (h : Chg Q a w) (hz : a.heap.size ≤ z) (v0 v1 v2 v3 v4 v5 v6 : Value) : Chg Q a (((((((w.setCell ⟨z, 0, none⟩ v0).setCell ⟨z, 1, none⟩ v1).setCell ⟨z, 2, none⟩ v2).setCell ⟨z, 3, none⟩ v3).setCell ⟨z, 4, none⟩ v4).setCell ⟨z, 5, none⟩ v5).setCell ⟨z, 6, none⟩ v6) :=
  (((((((h.setCell (p := ⟨z, 0, none⟩) (.inr hz) v0).setCell (p := ⟨z, 1, none⟩) (.inr hz) v1).setCell (p := ⟨z, 2, none⟩) (.inr hz) v2).setCell (p := ⟨z, 3, none⟩) (.inr hz) v3).setCell (p := ⟨z, 4, none⟩) (.inr hz) v4).setCell (p := ⟨z, 5, none⟩) (.inr hz) v5).setCell (p := ⟨z, 6, none⟩) (.inr hz) v6)
/-- What does leaves. -/
def DidB (P : Nat → Prop) (w : World) (bb mm gw gb pb gp lb lc fb fc mb mc cc : Nat) (ca : Option Addr) (c : Conf) (t : Nat) (ws' : List Int) (e : Ending) (w' : World) : Prop :=
  ∃ d cap, e = .returned (.tuple #[.agg #[.slice (some ⟨d, 0, none⟩) c.ts.length cap, .int .i64 t, .slice (some ⟨lb, 0, none⟩) (nS c t) lc, .slice (some ⟨fb, 0, none⟩) (nG c t) fc, .slice (some ⟨mb, 0, none⟩) (nG c t) mc, .int .i64 (wordsOf c t), .slice ca c.cl.length cc], .bool true]) ∧ BodyAt w' bb mm gw gb pb gp c t ws' ∧ DBd P w' d lb fb mb ca c t ws' ∧ Chg (isB gw) w w'
/-- A body's box that is none of its blocks is turned. -/
theorem BodyAt.past {Q : Nat → Prop} (h : BodyAt w bb mm gw gb pb gp c t ws) (hx : Chg Q w w') (hq : ∀ k, Q k → bb ≠ k ∧ mm ≠ k ∧ gw ≠ k ∧ gb ≠ k ∧ pb ≠ k ∧ gp ≠ k ∧ 0 ≠ k) : BodyAt w' bb mm gw gb pb gp c t ws := by
  have n7 : ¬ Q 0 := fun q => (hq _ q).2.2.2.2.2.2 rfl
  obtain ⟨h0, h1, h2, h3, h4⟩ := h.wid
  exact ⟨h.box.chg hx (fun q => (hq _ q).1 rfl), h.mem.chg hx (fun q => (hq _ q).2.1 rfl) (fun q => (hq _ q).2.2.1 rfl) (fun q => (hq _ q).2.2.2.1 rfl), h.plan.chg hx (fun q => (hq _ q).2.2.2.2.1 rfl) (fun q => (hq _ q).2.2.2.2.2.1 rfl), ⟨hx.cell n7 h0, hx.cell n7 h1, hx.cell n7 h2, hx.cell n7 h3, hx.cell n7 h4⟩, h.ok, h.ne⟩
theorem BodyAt.all_lt (h : BodyAt w bb mm gw gb pb gp c t ws) : bb < w.heap.size ∧ mm < w.heap.size ∧ gw < w.heap.size ∧ gb < w.heap.size ∧ pb < w.heap.size ∧ gp < w.heap.size ∧ 0 < w.heap.size :=
  ⟨h.box.lt, h.mem.lt.1, h.mem.lt.2.1, h.mem.lt.2.2, h.plan.lt.1, h.plan.lt.2, cell_lt h.wid.1⟩
theorem bMake_64 (h : BodyAt w bb mm gw gb pb gp c t ws) : True := trivial

end Go.Proofs.YtnbngcagnchkdaaDoor
