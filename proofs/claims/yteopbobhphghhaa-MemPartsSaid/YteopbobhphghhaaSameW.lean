/-
  commonageref03.Same: two rows of words.
-/
import Derived.Test.YteopbobhphghhaaOwnI
import Derived.Test.YteopbobhphghhaaEnt
import Derived.Test.YteopbobhphghhaaChecked
import Derived.Outline
import Derived.BigQuiet
import Derived.Deep.QuietTactic
namespace Go.Proofs.Yteopbobhphghhaa
open Go.RowKit

set_option maxHeartbeats 2000000 in
theorem ref03_Same {a b : Option Addr} {ca cb : Nat} (l m : List Int) (r : Bool) {w : World} (hr : decide (l = m) = r) (h : At .u64 w a l) (h' : At .u64 w b m) (hl : l.length ≤ maxLen) (hm : m.length ≤ maxLen) :
    Calls Try.prog 16 #[.slice a l.length ca, .slice b m.length cb] w fun e w' => e = .returned (.bool r) ∧ Ext w w' := by
  unfold maxLen at hl hm
  have H := Lib.hid h; have H' := Lib.hid h'; have HR := Lib.hid hr; clear h h' hr
  by_cases hlen : l.length = m.length
  · have hb : (l.length != m.length) = false := by simp [hlen]
    have hb2 : ((l.length : Int) != (m.length : Int)) = false := by simp [hlen]
    have HL := Lib.hid hlen; clear hlen
    go_enter Try.func16, Try.ntmps16
    go_wp2_with fail
    go_loopw [5] (fun i wr => ∃ k : Nat, k ≤ l.length ∧ i = .int .i64 k ∧ Hid (∀ j, j < k → nth l j = nth m j) ∧ Ext w wr) (fun i _ => l.length - (intOf i).toNat)
    case atStart => exact ⟨0, Nat.zero_le _, rfl, fun j hj => absurd hj (Nat.not_lt_zero _), Ext.refl w⟩
    case round =>
      obtain ⟨k, hk, rfl, HJ, hx⟩ := hrel
      by_cases hlt : k < l.length
      · have hlt2 : k < m.length := by have := HL.out; omega
        obtain ⟨x, o, rfl, hc⟩ := H.out.pos (by omega)
        obtain ⟨y, p, rfl, hc'⟩ := H'.out.pos (by omega)
        have z1 := hx.cell (hc k hlt)
        have z2 := hx.cell (hc' k hlt2)
        clear hc hc'
        by_cases he : nth l k = nth m k
        · have HJ2 : Hid (∀ j, j < k + 1 → nth l j = nth m j) := fun j hj => by
            rcases Nat.lt_or_ge j k with c1 | c1
            · exact HJ j c1
            · obtain rfl : j = k := by omega
              exact he
          rw [← he] at z2
          clear he
          generalize nth l k = u at *
          go_wp2_with fail
          go_quiet (fail)
          go_wp2_with fail
          go_roundw
          case rel => exact ⟨k + 1, by omega, by go_num, HJ2, hx.drewN _⟩
          case measure => simp [intOf]; omega
        · have HE := Lib.hid he
          have hne : (nth l k != nth m k) = true := by simpa using he
          clear he
          generalize hu : nth l k = u at *
          generalize hv : nth m k = v at *
          have HU := Lib.hid hu; have HV := Lib.hid hv; clear hu hv
          go_wp2_with fail
          go_quiet (fail)
          go_wp2_with fail
          go_ret
          exact ⟨ret_bool (by rw [← HR.out, decide_eq_false]; rintro rfl; exact HE.out (by rw [← HU.out, ← HV.out])), hx.drewN _⟩
      · obtain rfl : k = l.length := by omega
        go_wp2_with fail
        go_ret
        exact ⟨ret_bool (by rw [← HR.out, decide_eq_true]; exact nth_ext HL.out HJ), hx⟩
  · have hb : (l.length != m.length) = true := by simpa using hlen
    have hb2 : ((l.length : Int) != (m.length : Int)) = true := by simp; omega
    have HL := Lib.hid hlen; clear hlen
    go_enter Try.func16, Try.ntmps16
    go_wp2_with fail
    go_ret
    exact ⟨ret_bool (by rw [← HR.out, decide_eq_false]; rintro rfl; exact HL.out rfl), Ext.refl w⟩

end Go.Proofs.Yteopbobhphghhaa
