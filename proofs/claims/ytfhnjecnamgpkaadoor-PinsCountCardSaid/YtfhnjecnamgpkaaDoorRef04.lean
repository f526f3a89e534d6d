/-
  commonageref04: New, Get, Set, Next, Count, Less.
-/
import Derived.Test.YtfhnjecnamgpkaaDoorNext3
import Derived.Test.YtfhnjecnamgpkaaDoorBoolRow
namespace Go.Proofs.YtfhnjecnamgpkaaDoor
open Go.RowKit

theorem info_bool : (Tryd.prog.info? 4).map (fun i => (i.zero, i.size, i.bytes)) = some (some (.bool false), 1, 1) := by kernel_rfl
/-- What a call hands back: a row of truths of its own, and numbers behind it. -/
def MadeBits (bs : List Bool) (w : World) (e : Ending) (w' : World) : Prop := ∃ a cap, e = .returned (.slice a bs.length cap) ∧ NewBits w w' a cap bs ∧ Far w.heap.size a ∧ Ext w w'

set_option maxHeartbeats 2000000 in
theorem ref04_New (n : Nat) {w : World} (hn : n ≤ 65536) : Calls Tryd.prog 23 #[.int .i64 n] w (MadeBits (List.replicate n false) w) := by
  obtain ⟨i0, hi0, hz0, hz1, hz2⟩ := info_parts info_bool
  go_enter Tryd.func23, Tryd.ntmps23
  go_wp2_with fail
  go_loopw [3, 4] (fun sv i wr => ∃ k : Nat, k ≤ n ∧ i = .int .i64 k ∧ Hid (wr.ownsRow w.heap.size 4 1 sv k (bcs (List.replicate k false))) ∧ Ext w wr) (fun _ i _ => n - (intOf i).toNat)
  case atStart => exact ⟨0, Nat.zero_le _, rfl, World.ownsRow_nil _ _ _ _, Ext.refl w⟩
  case round =>
    obtain ⟨k, hk, rfl, HO, hx⟩ := hrel
    obtain ⟨wo, rfl⟩ : ∃ wo : World, wo = wr := ⟨_, rfl⟩
    by_cases hlt : k < n
    · have hsz := hx.size
      have hm63 : k + 1 ≤ maxLen := by unfold maxLen; omega
      have HM := Lib.hid hm63; clear hm63
      go_wp2_with (at_builtin; refine wpList_append_lies _ rfl (.tmp 10) (.tmp 11) 25 rfl w.heap.size 4 i0 (.bool false) 1 1 Tryd.underlying25 hi0 hz0 hz1 hz2 rfl (by decide) _ k (bcs (List.replicate k false)) rfl (HO.out.alloc _) ⟨wo.heap.size, 0, none⟩ 1 1 [.bool false] rfl rfl (news1 _ _ _) (one1 rfl) (by omega) HM.out (by omega) (by simp; omega) (wo.heap.size + 1) (by simp) ?_; intro gg cap w2 hown2 hgrow hat hlt2; have HW := Lib.hid hown2; have hx2 := (hx.alloc (.cells #[.bool false] 4)).grown hgrow fun k e => (HO.out.lt k e).1; clear hown2 hgrow hat hlt2)
      go_roundw
      case rel => exact ⟨k + 1, by omega, by go_num, by unfold Hid; rw [List.replicate_succ', ← bcs_snoc]; exact HW.out, hx2⟩
      case measure => simp [intOf]; omega
    · obtain rfl : k = n := by omega
      have ho := HO.out
      obtain ⟨a, cap, hsv, hnb⟩ := newBits_of (bs := List.replicate k false) (by rw [List.length_replicate]; exact ho)
      subst hsv
      have FA := Lib.hid (own_far ho)
      clear ho
      go_wp2_with fail
      go_ret
      exact ⟨a, cap, rfl, hnb, FA.out, hx⟩

set_option maxHeartbeats 1000000 in
theorem ref04_Get {a : Option Addr} {cap : Nat} {i : Int} (bs : List Bool) (r : Bool) {w : World} (h : BAt w a bs) (hl : bs.length ≤ 65536) (hr : bget bs i = r) : Calls Tryd.prog 48 #[.slice a bs.length cap, .int .i64 i] w fun e w' => e = .returned (.bool r) ∧ w = w' := by
  by_cases hi : 0 ≤ i ∧ i < bs.length
  · obtain ⟨n, rfl⟩ := Int.eq_ofNat_of_zero_le hi.1
    have hn : n < bs.length := by omega
    obtain ⟨b, o, rfl, hc⟩ := h.pos (by omega)
    have hcn := hc n hn
    have HR := Lib.hid (show bnth bs n = r by rw [← hr, bget_nat])
    clear hc h hr hi
    generalize bnth bs n = v at *
    go_enter Tryd.func48, Tryd.ntmps48
    go_wp2_with fail
    go_ret
    exact ⟨ret_bool HR.out, rfl⟩
  · have HR := Lib.hid (show false = r by rw [← hr, bget_no hi])
    clear hr h
    by_cases h0 : i < 0
    · clear hi
      go_enter Tryd.func48, Tryd.ntmps48
      go_wp2_with fail
      go_ret
      exact ⟨ret_bool HR.out, rfl⟩
    · have h1 : 0 ≤ i := by omega
      have h2 : (bs.length : Int) ≤ i := by omega
      clear hi
      go_enter Tryd.func48, Tryd.ntmps48
      go_wp2_with fail
      go_ret
      exact ⟨ret_bool HR.out, rfl⟩

set_option maxHeartbeats 1000000 in
theorem ref04_Count {a : Option Addr} {cap : Nat} (bs : List Bool) (c : Nat) {w : World} (h : BAt w a bs) (hl : bs.length ≤ 65536) (hc : bcnt bs bs.length = c) : Calls Tryd.prog 46 #[.slice a bs.length cap] w fun e w' => e = .returned (.int .i64 c) ∧ w = w' := by
  have H := Lib.hid h; have HC := Lib.hid hc; clear h hc
  go_enter Tryd.func46, Tryd.ntmps46
  go_wp2_with fail
  go_loop [3, 4] (fun n i => ∃ k : Nat, k ≤ bs.length ∧ n = .int .i64 ((bcnt bs k : Nat) : Int) ∧ i = .int .i64 k) (fun _ i => bs.length - (intOf i).toNat)
  case atStart => exact ⟨0, Nat.zero_le _, rfl, rfl⟩
  case round =>
    obtain ⟨k, hk, rfl, rfl⟩ := hrel
    by_cases hlt : k < bs.length
    · obtain ⟨b, o, rfl, hcells⟩ := H.out.pos (by omega)
      have hck := hcells k hlt
      have hcl := bcnt_le bs k
      have HS := Lib.hid (bcnt_succ bs k)
      clear hcells
      generalize bcnt bs k = n at *
      cases hv : bnth bs k
      · rw [hv] at hck HS
        clear hv
        go_wp2_with fail
        go_round
        case rel => exact ⟨k + 1, by omega, by rw [HS.out]; rfl, by go_num⟩
        case measure => simp [intOf]; omega
      · rw [hv] at hck HS
        clear hv
        go_wp2_with fail
        go_round
        case rel => exact ⟨k + 1, by omega, by rw [HS.out]; go_num, by go_num⟩
        case measure => simp [intOf]; omega
    · obtain rfl : k = bs.length := by omega
      rw [HC.out]
      go_wp2_with fail
      go_ret
      exact ⟨rfl, rfl⟩

end Go.Proofs.YtfhnjecnamgpkaaDoor
