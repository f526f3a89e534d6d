/-
  commonageref14: Same, Next, All.
-/
import Derived.Test.YtfhnjecnamgpkaaDoorPins6
namespace Go.Proofs.YtfhnjecnamgpkaaDoor
open Go.RowKit

set_option maxHeartbeats 2000000 in
theorem ref14_Same {a b : Option Addr} {ca cb : Nat} (l m : List Int) (r : Bool) {w : World} (hr : decide (l = m) = r) (h : At .i64 w a l) (h' : At .i64 w b m) (hl : l.length ≤ maxLen) (hm : m.length ≤ maxLen) :
    Calls Tryd.prog 58 #[.slice a l.length ca, .slice b m.length cb] w fun e w' => e = .returned (.bool r) ∧ Ext w w' := by
  unfold maxLen at hl hm
  have H := Lib.hid h; have H' := Lib.hid h'; have HR := Lib.hid hr; clear h h' hr
  by_cases hlen : l.length = m.length
  · have hb : (l.length != m.length) = false := by simp [hlen]
    have hb2 : ((l.length : Int) != (m.length : Int)) = false := by simp [hlen]
    have HL := Lib.hid hlen; clear hlen
    go_enter Tryd.func58, Tryd.ntmps58
    go_wp2_with fail
    go_loopw [5] (fun i wr => ∃ k : Nat, k ≤ l.length ∧ i = .int .i64 k ∧ Hid (∀ j, j < k → nth l j = nth m j) ∧ Ext w wr) (fun i _ => l.length - (intOf i).toNat)
    case atStart => exact ⟨0, Nat.zero_le _, rfl, fun j hj => absurd hj (Nat.not_lt_zero _), Ext.refl w⟩
    case round =>
      obtain ⟨k, hk, rfl, HJ, hx⟩ := hrel
      by_cases hlt : k < l.length
      · have hlt2 : k < m.length := by have := HL.out; omega
        obtain ⟨x, o, rfl, hc⟩ := H.out.pos (by omega)
        obtain ⟨y, p, rfl, hc'⟩ := H'.out.pos (by omega)
        have z1 := hx.cell (hc k hlt)
        have z2 := hx.cell (hc' k hlt2)
        clear hc hc'
        by_cases he : nth l k = nth m k
        · have HJ2 : Hid (∀ j, j < k + 1 → nth l j = nth m j) := fun j hj => by
            rcases Nat.lt_or_ge j k with c1 | c1
            · exact HJ j c1
            · obtain rfl : j = k := by omega
              exact he
          rw [← he] at z2
          clear he
          generalize nth l k = u at *
          go_wp2_with fail
          go_quiet (fail)
          go_wp2_with fail
          go_roundw
          case rel => exact ⟨k + 1, by omega, by go_num, HJ2, hx.drewN _⟩
          case measure => simp [intOf]; omega
        · have HE := Lib.hid he
          have hne : (nth l k != nth m k) = true := by simpa using he
          clear he
          generalize hu : nth l k = u at *
          generalize hv : nth m k = v at *
          have HU := Lib.hid hu; have HV := Lib.hid hv; clear hu hv
          go_wp2_with fail
          go_quiet (fail)
          go_wp2_with fail
          go_ret
          exact ⟨ret_bool (by rw [← HR.out, decide_eq_false]; rintro rfl; exact HE.out (by rw [← HU.out, ← HV.out])), hx.drewN _⟩
      · obtain rfl : k = l.length := by omega
        go_wp2_with fail
        go_ret
        exact ⟨ret_bool (by rw [← HR.out, decide_eq_true]; exact nth_ext HL.out HJ), hx⟩
  · have hb : (l.length != m.length) = true := by simpa using hlen
    have hb2 : ((l.length : Int) != (m.length : Int)) = true := by simp; omega
    have HL := Lib.hid hlen; clear hlen
    go_enter Tryd.func58, Tryd.ntmps58
    go_wp2_with fail
    go_ret
    exact ⟨ret_bool (by rw [← HR.out, decide_eq_false]; rintro rfl; exact HL.out rfl), Ext.refl w⟩

set_option maxHeartbeats 2000000 in
theorem ref14_Next {a : Option Addr} {cap : Nat} {fm : Int} (ms : List Int) (p : Int) (q : Bool) {w : World} (h : At .i64 w a ms) (hl : ms.length ≤ 65536) (hn : IsNext (pbs ms) fm true p q) :
    Calls Tryd.prog 60 #[.slice a ms.length cap, .int .i64 fm] w fun e w' => e = .returned (.tuple #[.int .i64 p, .bool q]) ∧ w = w' := by
  have H := Lib.hid h; have HN := Lib.hid hn; clear h hn
  go_enter Tryd.func60, Tryd.ntmps60
  go_wp2_with fail
  go_loop [6] (fun i => ∃ k : Nat, k ≤ ms.length ∧ i = .int .i64 k ∧ Hid (∀ j : Nat, fm ≤ j → j < k → bnth (pbs ms) j = !true)) (fun i => ms.length - (intOf i).toNat)
  case atStart => exact ⟨0, Nat.zero_le _, rfl, fun j _ h => absurd h (Nat.not_lt_zero _)⟩
  case round =>
    obtain ⟨k, hk, rfl, HJ⟩ := hrel
    by_cases hlt : k < ms.length
    · obtain ⟨b, o, rfl, hc⟩ := H.out.pos (by omega)
      have hcn := hc k hlt
      clear hc
      by_cases hf : fm ≤ k
      · have t0 : decide ((k : Int) < fm) = false := by simp; omega
        by_cases hv : 0 < nth ms k
        · have HV := Lib.hid (show bnth (pbs ms) k = true by rw [pbs_nth]; simpa using hv)
          generalize nth ms k = y at *
          go_wp2_with fail
          go_ret2
          have := IsNext.same (p := (k : Int)) (q := true) (.inl ⟨rfl, k, rfl, hf, by rw [pbs_len]; exact hlt, HV.out, fun j h1 h2 => HJ j h1 h2⟩) HN.out
          exact ⟨by rw [← this.1, ← this.2]; rfl, rfl⟩
        · have HV := Lib.hid (show bnth (pbs ms) k = !true by rw [pbs_nth]; simpa using hv)
          generalize nth ms k = y at *
          go_wp2_with fail
          go_round
          case rel => exact ⟨k + 1, by omega, by go_num, fun j h1 h2 => by
            rcases Nat.lt_or_ge j k with c | c
            · exact HJ j h1 c
            · obtain rfl : j = k := by omega
              exact HV.out⟩
          case measure => simp [intOf]; omega
      · have t0 : decide ((k : Int) < fm) = true := by simp; omega
        clear hcn
        go_wp2_with fail
        go_round
        case rel => exact ⟨k + 1, by omega, by go_num, fun j h1 h2 => by
          exact HJ j h1 (by omega)⟩
        case measure => simp [intOf]; omega
    · obtain rfl : k = ms.length := by omega
      go_wp2_with fail
      go_ret2
      have := IsNext.same (p := 0) (q := false) (.inr ⟨rfl, rfl, fun j h1 h2 => HJ j h1 (by rw [pbs_len] at h2; exact h2)⟩) HN.out
      exact ⟨by rw [← this.1, ← this.2]; rfl, rfl⟩

set_option maxHeartbeats 2000000 in
theorem ref14_All {a : Option Addr} {cap : Nat} (ms : List Int) {w : World} (h : At .i64 w a ms) (hl : ms.length ≤ 65536) :
    Calls Tryd.prog 38 #[.slice a ms.length cap] w (ClonedInts .i64 (pall ms ms.length) w) := by
  obtain ⟨i0, hi0, hz0, hz1, hz2⟩ := info_parts info_i64
  have H := Lib.hid h
  clear h
  go_enter Tryd.func38, Tryd.ntmps38
  go_wp2_with fail
  go_loopw [3, 4] (fun sv i wr => ∃ k : Nat, k ≤ ms.length ∧ i = .int .i64 k ∧ Hid (wr.ownsRow w.heap.size 3 1 sv (pall ms k).length (ncs .i64 (pall ms k))) ∧ Ext w wr) (fun _ i _ => ms.length - (intOf i).toNat)
  case atStart => exact ⟨0, Nat.zero_le _, rfl, World.ownsRow_nil _ _ _ _, Ext.refl w⟩
  case round =>
    obtain ⟨k, hk, rfl, HO, hx⟩ := hrel
    obtain ⟨wo, rfl⟩ : ∃ wo : World, wo = wr := ⟨_, rfl⟩
    by_cases hlt : k < ms.length
    · obtain ⟨b, o, rfl, hc⟩ := H.out.pos (by omega)
      have z1 := hx.cell (hc k hlt)
      have hsz := hx.size
      have sm := pall_small ms k
      clear hc
      by_cases hv : 0 < nth ms k
      · have HP := Lib.hid (pall_yes hv)
        generalize nth ms k = y at *
        generalize pall ms k = L at *
        have hm63 : L.length + 1 ≤ maxLen := by unfold maxLen; omega
        have HM := Lib.hid hm63; clear hm63
        go_wp2_with (at_builtin; refine wpList_append_lies _ rfl (.tmp 16) (.tmp 18) 63 rfl w.heap.size 3 i0 (.int .i64 0) 1 8 Tryd.underlying63 hi0 hz0 hz1 hz2 rfl (by decide) _ L.length (ncs .i64 L) rfl (HO.out.alloc _) ⟨wo.heap.size, 0, none⟩ 1 1 [.int .i64 k] rfl rfl (news1 _ _ _) (one1 rfl) (by omega) HM.out (by omega) (by simp; omega) (wo.heap.size + 1) (by simp) ?_; intro gg cap w2 hown2 hgrow hat hlt2; have HW := Lib.hid hown2; have hx2 := (hx.alloc (.cells #[.int .i64 k] 3)).grown hgrow fun k e => (HO.out.lt k e).1; clear hown2 hgrow hat hlt2)
        go_roundw
        case rel => exact ⟨k + 1, by omega, by go_num, by unfold Hid; rw [HP.out, ← ncs_snoc]; simpa using HW.out, hx2⟩
        case measure => simp [intOf]; omega
      · have HP := Lib.hid (pall_no hv)
        generalize nth ms k = y at *
        go_wp2_with fail
        go_roundw
        case rel => exact ⟨k + 1, by omega, by go_num, by unfold Hid; rw [HP.out]; exact HO.out, hx⟩
        case measure => simp [intOf]; omega
    · obtain rfl : k = ms.length := by omega
      obtain ⟨a, cap, rfl, hn⟩ := newInts_of HO.out
      have HNI := Lib.hid hn
      clear hn HO
      go_wp2_with fail
      go_ret
      exact ⟨a, cap, rfl, HNI.out, hx⟩

end Go.Proofs.YtfhnjecnamgpkaaDoor
