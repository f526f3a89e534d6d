/-
  field.each, all, Pack, Unpack.
-/
import Derived.Test.YtjdagameeopadaaDoorField
import Derived.Test.YtjdagameeopadaaDoorOwnI
import Derived.Deep.RegionWith
namespace Go.Proofs.YtjdagameeopadaaDoor
open Go.RowKit

/-- A function value that is called field by field: at field i it answers err i, and leads from a world of I i to one of I (i + 1). -/
def Steps (P : Program) (g : Nat) (cs : Array Value) (xs : List Int) (err : Nat → Int) (I : Nat → World → Prop) (n : Nat) : Prop :=
  ∀ i w', i < n → I i w' → Calls P g (#[.int .i64 i, .int .i64 (fr xs i), .int .i64 (nth xs i)] ++ cs) w' fun e w'' => e = .returned (.int .i64 (err i)) ∧ I (i + 1) w''

set_option maxHeartbeats 2000000 in
theorem field_each_ok {a : Option Addr} {cap g : Nat} {cs : Array Value} (xs : List Int) (s : Int) (I : Nat → World → Prop) {w : World} (hl : xs.length ≤ maxLen)
    (hat : ∀ i w', I i w' → At .i64 w' a xs) (hst : Steps Tryd.prog g cs xs (fun _ => 0) I xs.length) (hfr : ∀ i, i ≤ xs.length → 0 ≤ fr xs i ∧ fr xs i ≤ 64) (hI : I 0 w) (hk : Enters Tryd.prog g) (hs : fr xs xs.length = s) :
    Calls Tryd.prog 22 #[.slice a xs.length cap, .func (.func g) #[] cs] w fun e w' => e = .returned (.tuple #[.int .i64 s, .int .i64 0]) ∧ I xs.length w' := by
  unfold Enters at hk
  unfold maxLen at hl
  have HA := Lib.hid hat; have HS := Lib.hid hst; have HF := Lib.hid hfr; have HI := Lib.hid hI; have HE := Lib.hid hs
  clear hat hst hfr hI hs
  go_enter Tryd.func22, Tryd.ntmps22
  go_wp2_with fail
  go_loopw [6, 12] (fun u i wr => ∃ k : Nat, k ≤ xs.length ∧ i = .int .i64 k ∧ u = .int .i64 (fr xs k) ∧ Hid (I k wr)) (fun _ i _ => xs.length - (intOf i).toNat)
  case atStart => exact ⟨0, Nat.zero_le _, rfl, rfl, HI⟩
  case round =>
    obtain ⟨k, hk1, rfl, rfl, HK⟩ := hrel
    by_cases hlt : k < xs.length
    · obtain ⟨b, o, rfl, hc⟩ := (HA.out _ _ HK.out).pos (by omega)
      have hck := hc k hlt
      clear hc
      have CC := Lib.hid (HS.out k _ hlt HK.out)
      have f0 := HF.out k (by omega)
      have f1 := HF.out (k + 1) (by omega)
      have HU := Lib.hid (show fr xs (k + 1) = fr xs k + nth xs k from rfl)
      rw [HU.out] at f1
      generalize fr xs k = u at *
      generalize nth xs k = v at *
      go_wp2_with fail
      refine CC.out.mono ?_
      rintro e w1 ⟨rfl, hw1⟩
      have HW := Lib.hid hw1
      clear hw1 hck
      go_wp2_with fail
      go_roundw
      case rel => exact ⟨k + 1, by omega, by go_num, by rw [HU.out], HW⟩
      case measure => simp [intOf]; omega
    · obtain rfl : k = xs.length := by omega
      go_wp2_with fail
      go_ret2
      exact ⟨ret_int2 HE.out rfl, HK.out⟩

set_option maxHeartbeats 2000000 in
theorem field_each_err {a : Option Addr} {cap g : Nat} {cs : Array Value} (xs : List Int) (n : Nat) (q : Int) (I : Nat → World → Prop) {w : World} (hl : xs.length ≤ maxLen)
    (hat : ∀ i w', I i w' → At .i64 w' a xs) (hn : n < xs.length) (hq : q ≠ 0) (hst : Steps Tryd.prog g cs xs (fun i => if i = n then q else 0) I (n + 1)) (hfr : ∀ i, i ≤ n → 0 ≤ fr xs i ∧ fr xs i ≤ 64) (hI : I 0 w) (hk : Enters Tryd.prog g) :
    Calls Tryd.prog 22 #[.slice a xs.length cap, .func (.func g) #[] cs] w fun e w' => e = .returned (.tuple #[.int .i64 0, .int .i64 q]) ∧ I (n + 1) w' := by
  unfold Enters at hk
  unfold maxLen at hl
  have HA := Lib.hid hat; have HS := Lib.hid hst; have HF := Lib.hid hfr; have HI := Lib.hid hI; have HQ := Lib.hid hq
  clear hat hst hfr hI hq
  go_enter Tryd.func22, Tryd.ntmps22
  go_wp2_with fail
  go_loopw [6, 12] (fun u i wr => ∃ k : Nat, k ≤ n ∧ i = .int .i64 k ∧ u = .int .i64 (fr xs k) ∧ Hid (I k wr)) (fun _ i _ => xs.length - (intOf i).toNat)
  case atStart => exact ⟨0, Nat.zero_le _, rfl, rfl, HI⟩
  case round =>
    obtain ⟨k, hk1, rfl, rfl, HK⟩ := hrel
    have hlt : k < xs.length := by omega
    obtain ⟨b, o, rfl, hc⟩ := (HA.out _ _ HK.out).pos (by omega)
    have hck := hc k hlt
    clear hc
    by_cases hkn : k < n
    · have CC : Hid (Calls Tryd.prog g (#[.int .i64 k, .int .i64 (fr xs k), .int .i64 (nth xs k)] ++ cs) wr fun e w'' => e = .returned (.int .i64 0) ∧ I (k + 1) w'') :=
        Lib.hid ((HS.out k _ (by omega) HK.out).mono fun _ _ ⟨he, hi⟩ => ⟨he.trans (ret_int (if_neg (by omega))), hi⟩)
      have f0 := HF.out k (by omega)
      have f1 := HF.out (k + 1) (by omega)
      have HU := Lib.hid (show fr xs (k + 1) = fr xs k + nth xs k from rfl)
      rw [HU.out] at f1
      generalize fr xs k = u at *
      generalize nth xs k = v at *
      go_wp2_with fail
      refine CC.out.mono ?_
      rintro e w1 ⟨rfl, hw1⟩
      have HW := Lib.hid hw1
      clear hw1 hck
      go_wp2_with fail
      go_roundw
      case rel => exact ⟨k + 1, by omega, by go_num, by rw [HU.out], HW⟩
      case measure => simp [intOf]; omega
    · obtain rfl : k = n := by omega
      have CC : Hid (Calls Tryd.prog g (#[.int .i64 k, .int .i64 (fr xs k), .int .i64 (nth xs k)] ++ cs) wr fun e w'' => e = .returned (.int .i64 q) ∧ I (k + 1) w'') :=
        Lib.hid ((HS.out k _ (by omega) HK.out).mono fun _ _ ⟨he, hi⟩ => ⟨he.trans (ret_int (if_pos rfl)), hi⟩)
      have hq2 : (q != 0) = true := by simpa using HQ.out
      generalize fr xs k = u at *
      generalize nth xs k = v at *
      go_wp2_with fail
      refine CC.out.mono ?_
      rintro e w1 ⟨rfl, hw1⟩
      have HW := Lib.hid hw1
      clear hw1 hck
      go_wp2_with fail
      go_ret2
      exact ⟨rfl, HW.out⟩

/-! ### all -/
theorem enters_all1 : Enters Tryd.prog 27 := Enters.mk Tryd.func27 (by kernel_rfl) rfl
theorem enters_Pack1 : Enters Tryd.prog 25 := Enters.mk Tryd.func25 (by kernel_rfl) rfl
theorem enters_Unpack1 : Enters Tryd.prog 23 := Enters.mk Tryd.func23 (by kernel_rfl) rfl

set_option maxHeartbeats 1000000 in
theorem field_all1 {i f m : Int} (q : Int) {w : World} (hq : (if mayB f m = true then (0 : Int) else 2) = q) :
    Calls Tryd.prog 27 #[.int .i64 i, .int .i64 f, .int .i64 m] w fun e w' => e = .returned (.int .i64 q) ∧ Ext w w' := by
  cases hm : mayB f m
  · obtain rfl : 2 = q := by rw [hm] at hq; simpa using hq
    have HM := Lib.hid hm
    clear hm hq
    go_enter Tryd.func27, Tryd.ntmps27
    go_wp2_with fail
    refine (field_may false HM.out).mono ?_
    rintro e w1000 ⟨rfl, rfl⟩
    go_wp2_with fail
    go_ret
    exact ⟨rfl, Ext.refl _⟩
  · obtain rfl : 0 = q := by rw [hm] at hq; simpa using hq
    have HM := Lib.hid hm
    clear hm hq
    go_enter Tryd.func27, Tryd.ntmps27
    go_wp2_with fail
    refine (field_may true HM.out).mono ?_
    rintro e w1000 ⟨rfl, rfl⟩
    go_wp2_with fail
    go_ret
    exact ⟨rfl, Ext.refl _⟩

theorem allR_no0 {xs : List Int} (h : xs.length = 0) : allR xs = (0, 2) := by unfold allR wokB; rw [if_neg (by simp [h])]
theorem allR_yes {xs : List Int} (h : Wok xs) : allR xs = (fr xs xs.length, 0) := by unfold allR; rw [if_pos (wokB_iff.2 h)]
theorem allR_no {xs : List Int} (h : ¬ Wok xs) : allR xs = (0, 2) := by unfold allR; rw [if_neg fun c => h (wokB_iff.1 c)]

/-- Widths that may be ahead of field n. -/
theorem fr_upto {xs : List Int} {n : Nat} (h : ∀ i, i < n → mayB (fr xs i) (nth xs i) = true) : ∀ i, i ≤ n → 0 ≤ fr xs i ∧ fr xs i ≤ 64
  | 0, _ => ⟨Int.le_refl _, by unfold fr; decide⟩
  | i + 1, hi => by
    have := mayB_iff.1 (h i (by omega))
    unfold fr; omega

set_option maxHeartbeats 1000000 in
theorem field_all {a : Option Addr} {cap : Nat} (xs : List Int) (p q : Int) {w : World} (hpq : allR xs = (p, q)) (h : At .i64 w a xs) (hl : xs.length ≤ maxLen) :
    Calls Tryd.prog 20 #[.slice a xs.length cap] w fun e w' => e = .returned (.tuple #[.int .i64 p, .int .i64 q]) ∧ Ext w w' := by
  by_cases h0 : xs.length = 0
  · rw [allR_no0 h0] at hpq
    cases hpq
    have h0' : ((xs.length : Int) == 0) = true := by simp [h0]
    clear h h0
    go_enter Tryd.func20, Tryd.ntmps20
    go_wp2_with fail
    go_ret2
    exact ⟨rfl, Ext.refl _⟩
  · have h0' : ((xs.length : Int) == 0) = false := by simpa using h0
    have H := Lib.hid h; clear h
    rcases first_bad (fun i => mayB (fr xs i) (nth xs i)) xs.length with hb | ⟨n, hn, hb, hbn⟩
    · have wk : Wok xs := ⟨by omega, hb⟩
      rw [allR_yes wk] at hpq
      cases hpq
      have CC := Lib.hid (field_each_ok (cap := cap) (cs := #[]) xs _ (fun _ w' => Ext w w') hl (fun i w' hw => H.out.ext hw)
        (fun i w' hi hw => (field_all1 0 (by rw [if_pos (hb i hi)])).mono fun _ _ ⟨he, hx⟩ => ⟨he, hw.trans hx⟩) wk.fr0 (Ext.refl w) enters_all1 rfl)
      clear wk hb h0
      generalize fr xs xs.length = s at *
      go_enter Tryd.func20, Tryd.ntmps20
      go_wp2_with fail
      refine CC.out.mono ?_
      rintro e w1 ⟨rfl, hw1⟩
      go_wp2_with fail
      go_ret2
      exact ⟨rfl, hw1⟩
    · rw [allR_no (fun c => by have := c.may n hn; rw [hbn] at this; cases this)] at hpq
      cases hpq
      have CC := Lib.hid (field_each_err (cap := cap) (cs := #[]) xs n 2 (fun _ w' => Ext w w') hl (fun i w' hw => H.out.ext hw) hn (by decide)
        (fun i w' hi hw => (field_all1 _ (by
          show _ = (if i = n then (2 : Int) else 0)
          by_cases hin : i = n
          · subst hin; rw [if_pos rfl, if_neg (by rw [hbn]; decide)]
          · rw [if_neg hin, if_pos (hb i (by omega))])).mono fun _ _ ⟨he, hx⟩ => ⟨he, hw.trans hx⟩) (fr_upto hb) (Ext.refl w) enters_all1)
      clear hb hbn h0
      go_enter Tryd.func20, Tryd.ntmps20
      go_wp2_with fail
      refine CC.out.mono ?_
      rintro e w1 ⟨rfl, hw1⟩
      go_wp2_with fail
      go_ret2
      exact ⟨rfl, hw1⟩

/-! ### Pack -/
/-- What field.Pack's road knows of a world: all old things are as they were; the box of the values; the word so far. -/
structure PackW (w W : World) (bw bv : Nat) (a : Option Addr) (n cap : Nat) (u : Int) : Prop where
  ext : Ext w W
  vals : W.cell? ⟨bv, 0, none⟩ = some (.slice a n cap)
  word : W.cell? ⟨bw, 0, none⟩ = some (.int .u64 u)
  fz : W.frozen? ⟨bw, 0, none⟩ = false
  above : w.heap.size ≤ bw
  ne : bv ≠ bw
theorem PackW.go {w W W' : World} {bw bv : Nat} {a : Option Addr} {n cap : Nat} {u : Int} (h : PackW w W bw bv a n cap u) (hx : Ext W W') : PackW w W' bw bv a n cap u :=
  ⟨h.ext.trans hx, hx.cell h.vals, hx.cell h.word, hx.frozenAt h.word h.fz, h.above, h.ne⟩
theorem PackW.store {w W : World} {bw bv : Nat} {a : Option Addr} {n cap : Nat} {u : Int} (h : PackW w W bw bv a n cap u) (p : Int) : PackW w (W.setCell ⟨bw, 0, none⟩ (.int .u64 p)) bw bv a n cap p := by
  refine ⟨h.ext.setCell h.above _, ?_, ?_, by simpa using h.fz, h.above, h.ne⟩
  · have := h.ne
    exact (cell_far W _ _ _ (by show bw ≠ bv; omega)).trans h.vals
  · exact World.cell?_setCell_same W _ _ h.word

set_option maxHeartbeats 2000000 in
theorem field_Pack1 {w W : World} {bw bv : Nat} {a : Option Addr} {cap : Nat} (vs : List Int) (i : Nat) {f m : Int} (u p q : Int) (hp : PackW w W bw bv a vs.length cap u) (h0 : 0 ≤ u) (h1 : u < 18446744073709551616)
    (hv : 0 ≤ nth vs i ∧ nth vs i < 18446744073709551616) (hpq : gset u f m (nth vs i) = (p, q)) (h : At .u64 w a vs) (hi : i < vs.length) (hl : vs.length ≤ maxLen) :
    Calls Tryd.prog 25 #[.int .i64 i, .int .i64 f, .int .i64 m, .pointer (some ⟨bw, 0, none⟩), .pointer (some ⟨bv, 0, none⟩)] W fun e W' => e = .returned (.int .i64 q) ∧ PackW w W' bw bv a vs.length cap p := by
  unfold maxLen at hl
  obtain ⟨b, o, rfl, hc⟩ := h.pos (by omega)
  have hci := hp.ext.cell (hc i hi)
  have c1 := hp.vals; have c2 := hp.word; have c3 := hp.fz
  have HP := Lib.hid hp; have HQ := Lib.hid hpq; have HV := Lib.hid hv.2; have HU := Lib.hid h1; have HV0 := hv.1
  clear hc h hp hpq hv h1
  have hi0 : (0 : Int) ≤ (i : Int) := Int.natCast_nonneg _
  have hi1 : (i : Int) < (vs.length : Int) := by omega
  generalize nth vs i = v at *
  go_enter Tryd.func25, Tryd.ntmps25
  go_wp2_with fail
  go_region_with (go_at_call 26; refine (field_Set p q h0 HU.out HV0 HV.out HQ.out).mono ?_; rintro e w1 ⟨rfl, hE⟩; have hX := Ext.trans ((Ext.refl W).drew) hE; have P1 := Lib.hid (HP.out.go hX); have d2 := P1.out.word; have d3 := P1.out.fz)
  all_goals
    go_wp2_with fail
    go_ret
    exact ⟨rfl, P1.out.store _⟩

end Go.Proofs.YtjdagameeopadaaDoor
