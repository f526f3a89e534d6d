/-
  commonageref03: All, Pack, Unpack, Same.
-/
import Derived.Test.YtjdagameeopadaaRef03
namespace Go.Proofs.Ytjdagameeopadaa
open Go.RowKit

def refAll (xs : List Int) : Int := if wokB xs = true then fr xs xs.length else -1
theorem refAll_yes {xs : List Int} (h : Wok xs) : refAll xs = fr xs xs.length := by unfold refAll; rw [if_pos (wokB_iff.2 h)]
theorem refAll_no {xs : List Int} (h : ¬ Wok xs) : refAll xs = -1 := by unfold refAll; rw [if_neg fun c => h (wokB_iff.1 c)]

set_option maxHeartbeats 2000000 in
theorem ref03_All {a : Option Addr} {ca : Nat} (xs : List Int) (s : Int) {w : World} (hs : refAll xs = s) (h : At .i64 w a xs) (hl : xs.length ≤ maxLen) :
    Calls Try.prog 41 #[.slice a xs.length ca] w fun e w' => e = .returned (.int .i64 s) ∧ w = w' := by
  unfold maxLen at hl
  have H := Lib.hid h; have HS := Lib.hid hs; clear h hs
  go_enter Try.func41, Try.ntmps41
  go_wp2_with fail
  go_loop [3, 4] (fun u i => ∃ k : Nat, k ≤ xs.length ∧ i = .int .i64 k ∧ u = .int .i64 (fr xs k) ∧ Hid (∀ j, j < k → mayB (fr xs j) (nth xs j) = true)) (fun _ i => xs.length - (intOf i).toNat)
  case atStart => exact ⟨0, Nat.zero_le _, rfl, rfl, fun j hj => absurd hj (Nat.not_lt_zero _)⟩
  case round =>
    obtain ⟨k, hk, rfl, rfl, HJ⟩ := hrel
    have f0 := fr_upto HJ k (Nat.le_refl _)
    by_cases hlt : k < xs.length
    · obtain ⟨b, o, rfl, hc⟩ := H.out.pos (by omega)
      have hck := hc k hlt
      clear hc
      have HU := Lib.hid (show fr xs (k + 1) = fr xs k + nth xs k from rfl)
      cases hm : mayB (fr xs k) (nth xs k)
      · have HR := Lib.hid (refAll_no fun c => by have := c.may k hlt; rw [hm] at this; cases this)
        rw [mayB_no] at hm
        generalize fr xs k = u at *
        generalize nth xs k = v at *
        by_cases hv : v < 1
        · clear hm
          go_wp2_with fail
          go_ret
          exact ⟨ret_int (by rw [← HS.out, HR.out]), rfl⟩
        · have hd : decide (v < 1) = false := by simpa using hv
          have hg : 64 - u < v := by omega
          clear hm
          go_wp2_with fail
          go_ret
          exact ⟨ret_int (by rw [← HS.out, HR.out]), rfl⟩
      · have HM := Lib.hid hm
        rw [mayB_iff] at hm
        have HJ2 : Hid (∀ j, j < k + 1 → mayB (fr xs j) (nth xs j) = true) := fun j hj => by
          rcases Nat.lt_or_ge j k with c1 | c1
          · exact HJ j c1
          · obtain rfl : j = k := by omega
            exact HM.out
        generalize fr xs k = u at *
        generalize nth xs k = v at *
        have hd : decide (v < 1) = false := by simp; omega
        have hd2 : decide (64 - u < v) = false := by simp; omega
        go_wp2_with fail
        go_round
        case rel => exact ⟨k + 1, by omega, by go_num, by rw [HU.out], HJ2⟩
        case measure => simp [intOf]; omega
    · obtain rfl : k = xs.length := by omega
      by_cases h0 : xs.length = 0
      · have h0' : ((xs.length : Int) == 0) = true := by simp [h0]
        have HR := Lib.hid (refAll_no (xs := xs) fun c => by have := c.pos; omega)
        clear h0
        go_wp2_with fail
        go_ret
        exact ⟨ret_int (by rw [← HS.out, HR.out]), rfl⟩
      · have h0' : ((xs.length : Int) == 0) = false := by simpa using h0
        have HR := Lib.hid (refAll_yes (xs := xs) ⟨by omega, HJ⟩)
        clear h0
        go_wp2_with fail
        go_ret
        exact ⟨ret_int (by rw [← HS.out, HR.out]), rfl⟩

set_option maxHeartbeats 2000000 in
theorem ref03_Same {a b : Option Addr} {ca cb : Nat} (l m : List Int) (r : Bool) {w : World} (hr : decide (l = m) = r) (h : At .u64 w a l) (h' : At .u64 w b m) (hl : l.length ≤ maxLen) (hm : m.length ≤ maxLen) :
    Calls Try.prog 21 #[.slice a l.length ca, .slice b m.length cb] w fun e w' => e = .returned (.bool r) ∧ Ext w w' := by
  unfold maxLen at hl hm
  have H := Lib.hid h; have H' := Lib.hid h'; have HR := Lib.hid hr; clear h h' hr
  by_cases hlen : l.length = m.length
  · have hb : (l.length != m.length) = false := by simp [hlen]
    have hb2 : ((l.length : Int) != (m.length : Int)) = false := by simp [hlen]
    have HL := Lib.hid hlen; clear hlen
    go_enter Try.func21, Try.ntmps21
    go_wp2_with fail
    go_loopw [5] (fun i wr => ∃ k : Nat, k ≤ l.length ∧ i = .int .i64 k ∧ Hid (∀ j, j < k → nth l j = nth m j) ∧ Ext w wr) (fun i _ => l.length - (intOf i).toNat)
    case atStart => exact ⟨0, Nat.zero_le _, rfl, fun j hj => absurd hj (Nat.not_lt_zero _), Ext.refl w⟩
    case round =>
      obtain ⟨k, hk, rfl, HJ, hx⟩ := hrel
      by_cases hlt : k < l.length
      · have hlt2 : k < m.length := by have := HL.out; omega
        obtain ⟨x, o, rfl, hc⟩ := H.out.pos (by omega)
        obtain ⟨y, p, rfl, hc'⟩ := H'.out.pos (by omega)
        have z1 := hx.cell (hc k hlt)
        have z2 := hx.cell (hc' k hlt2)
        clear hc hc'
        by_cases he : nth l k = nth m k
        · have HJ2 : Hid (∀ j, j < k + 1 → nth l j = nth m j) := fun j hj => by
            rcases Nat.lt_or_ge j k with c1 | c1
            · exact HJ j c1
            · obtain rfl : j = k := by omega
              exact he
          rw [← he] at z2
          clear he
          generalize nth l k = u at *
          go_wp2_with fail
          go_quiet (fail)
          go_wp2_with fail
          go_roundw
          case rel => exact ⟨k + 1, by omega, by go_num, HJ2, hx.drewN _⟩
          case measure => simp [intOf]; omega
        · have HE := Lib.hid he
          have hne : (nth l k != nth m k) = true := by simpa using he
          clear he
          generalize hu : nth l k = u at *
          generalize hv : nth m k = v at *
          have HU := Lib.hid hu; have HV := Lib.hid hv; clear hu hv
          go_wp2_with fail
          go_quiet (fail)
          go_wp2_with fail
          go_ret
          exact ⟨ret_bool (by rw [← HR.out, decide_eq_false]; rintro rfl; exact HE.out (by rw [← HU.out, ← HV.out])), hx.drewN _⟩
      · obtain rfl : k = l.length := by omega
        go_wp2_with fail
        go_ret
        exact ⟨ret_bool (by rw [← HR.out, decide_eq_true]; exact nth_ext HL.out HJ), hx⟩
  · have hb : (l.length != m.length) = true := by simpa using hlen
    have hb2 : ((l.length : Int) != (m.length : Int)) = true := by simp; omega
    have HL := Lib.hid hlen; clear hlen
    go_enter Try.func21, Try.ntmps21
    go_wp2_with fail
    go_ret
    exact ⟨ret_bool (by rw [← HR.out, decide_eq_false]; rintro rfl; exact HL.out rfl), Ext.refl w⟩

set_option maxHeartbeats 2000000 in
theorem ref03_Pack {a b : Option Addr} {ca cb : Nat} (xs vs : List Int) (p q : Int) {w : World} (hpq : packR xs vs = (p, q)) (h : At .i64 w a xs) (hl : xs.length ≤ maxLen) (hv : At .u64 w b vs) (hvl : vs.length ≤ maxLen)
    (hvb : ∀ n ∈ vs, 0 ≤ n ∧ n < 18446744073709551616) :
    Calls Try.prog 18 #[.slice a xs.length ca, .slice b vs.length cb] w fun e w' => e = .returned (.tuple #[.int .u64 p, .int .i64 q]) ∧ Ext w w' := by
  have H := Lib.hid h; have HV := Lib.hid hv; have HB := Lib.hid hvb; have HL := Lib.hid hl
  unfold maxLen at hl hvl
  clear h hv hvb
  by_cases wk : Wok xs
  · have WK := Lib.hid wk
    have HA := Lib.hid (refAll_yes wk)
    have hs0 := (wk.fr0 xs.length (Nat.le_refl _)).1
    generalize fr xs xs.length = s at *
    by_cases hlen : vs.length = xs.length
    · have HLEN := Lib.hid hlen
      have hlenb : (vs.length != xs.length) = false := by simp [hlen]
      have hlenc : ((vs.length : Int) != (xs.length : Int)) = false := by simp [hlen]
      have HPQ := Lib.hid hpq
      clear wk hlen hpq
      go_enter Try.func18, Try.ntmps18
      go_wp2_with fail
      refine (ref03_All xs s HA.out H.out HL.out).mono ?_
      rintro e w1000 ⟨rfl, rfl⟩
      go_wp2_with fail
      go_loopw [6, 7, 8] (fun y u i wr => ∃ k : Nat, k ≤ xs.length ∧ i = .int .i64 k ∧ u = .int .i64 (fr xs k) ∧ y = .int .u64 ((pk xs vs k : Nat) : Int) ∧ Hid (∀ j, j < k → fitsB (nth vs j) (nth xs j) = true) ∧ Ext w wr) (fun _ _ i _ => xs.length - (intOf i).toNat)
      case atStart => exact ⟨0, Nat.zero_le _, rfl, rfl, rfl, fun j hj => absurd hj (Nat.not_lt_zero _), Ext.refl w⟩
      case round =>
        obtain ⟨k, hk, rfl, rfl, rfl, HJ, hx⟩ := hrel
        by_cases hlt : k < xs.length
        · have hlt2 : k < vs.length := by have := HLEN.out; omega
          obtain ⟨x, o, rfl, hc⟩ := H.out.pos (by omega)
          obtain ⟨y, p', rfl, hc'⟩ := HV.out.pos (by omega)
          have z1 := hx.cell (hc k hlt)
          have z2 := hx.cell (hc' k hlt2)
          have hvk := HB.out _ (nth_mem hlt2)
          have g64 := of64 (pk_64 WK.out k hk HJ)
          have HV2 := Lib.hid hvk.2; have HG2 := Lib.hid g64.2
          have hv0 := hvk.1; have hg0 := g64.1
          have f0 := WK.out.fr0 k hk; have f1 := WK.out.fr0 (k + 1) hlt
          have HU := Lib.hid (show fr xs (k + 1) = fr xs k + nth xs k from rfl)
          rw [HU.out] at f1
          clear hc hc' hvk g64
          cases hf : fitsB (nth vs k) (nth xs k)
          · have HST := Lib.hid (gset_pk_no WK.out k hlt hf ((pk xs vs k : Nat) : Int))
            have HP4 := Lib.hid (packR_four WK.out HLEN.out hlt hf)
            clear hf
            generalize fr xs k = u at *
            generalize nth xs k = m at *
            generalize nth vs k = v at *
            generalize pk xs vs k = g at *
            go_wp2_with fail
            go_quiet ((go_at_call 15; exact Calls.quiet_of_same (flip (ref03_Set _ _ hg0 HG2.out hv0 HV2.out HST.out))))
            go_wp2_with fail
            go_ret2
            have e4 := HPQ.out.symm.trans HP4.out
            cases e4
            exact ⟨rfl, hx.drewN _⟩
          · have HJ2 : Hid (∀ j, j < k + 1 → fitsB (nth vs j) (nth xs j) = true) := fun j hj => by
              rcases Nat.lt_or_ge j k with c1 | c1
              · exact HJ j c1
              · obtain rfl : j = k := by omega
                exact hf
            have HST := Lib.hid (gset_pk WK.out k hlt fun j hj => HJ2 j (by omega))
            clear hf
            generalize fr xs k = u at *
            generalize nth xs k = m at *
            generalize nth vs k = v at *
            generalize pk xs vs k = g at *
            go_wp2_with fail
            go_quiet ((go_at_call 15; exact Calls.quiet_of_same (flip (ref03_Set _ _ hg0 HG2.out hv0 HV2.out HST.out))))
            go_wp2_with fail
            go_roundw
            case rel => exact ⟨k + 1, by omega, by go_num, by rw [HU.out], rfl, HJ2, hx.drewN _⟩
            case measure => simp [intOf]; omega
        · obtain rfl : k = xs.length := by omega
          have e0 := HPQ.out.symm.trans (packR_ok WK.out HLEN.out HJ)
          cases e0
          go_wp2_with fail
          go_ret2
          exact ⟨rfl, hx⟩
    · rw [packR_len hlen] at hpq
      cases hpq
      have hlenb : (vs.length != xs.length) = true := by simpa using hlen
      have hlenc : ((vs.length : Int) != (xs.length : Int)) = true := by simp; omega
      clear wk hlen
      go_enter Try.func18, Try.ntmps18
      go_wp2_with fail
      refine (ref03_All xs s HA.out H.out HL.out).mono ?_
      rintro e w1000 ⟨rfl, rfl⟩
      go_wp2_with fail
      go_ret2
      exact ⟨rfl, Ext.refl w⟩
  · have HA := Lib.hid (refAll_no wk)
    rw [packR_bad wk] at hpq
    cases hpq
    clear wk
    go_enter Try.func18, Try.ntmps18
    go_wp2_with fail
    refine (ref03_All xs _ HA.out H.out HL.out).mono ?_
    rintro e w1000 ⟨rfl, rfl⟩
    go_wp2_with fail
    go_ret2
    exact ⟨rfl, Ext.refl w⟩

end Go.Proofs.Ytjdagameeopadaa
