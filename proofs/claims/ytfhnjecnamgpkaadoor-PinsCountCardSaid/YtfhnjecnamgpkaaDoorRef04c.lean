/-
  commonageref04.Words.
-/
import Derived.Test.YtfhnjecnamgpkaaDoorRef04b
namespace Go.Proofs.YtfhnjecnamgpkaaDoor
open Go.RowKit

theorem bnth_take (bs : List Bool) (k i : Nat) : bnth (bs.take k) i = (decide (i < k) && bnth bs i) := by
  unfold bnth
  by_cases h : i < k
  · simp [List.getD, h]
  · simp [List.getD, List.getElem?_take, h]
/-- The words so far, and one more where a word begins. -/
def wds0 (bs : List Bool) (k : Nat) : List Int := if k % 64 = 0 then wds (bs.take k) ++ [0] else wds (bs.take k)
theorem wlen_step (k : Nat) : wlen (k + 1) = k / 64 + 1 := by unfold wlen; omega
theorem wds0_len (bs : List Bool) (k : Nat) (hk : k < bs.length) : (wds0 bs k).length = k / 64 + 1 := by
  have e : (wds (bs.take k)).length = wlen k := by rw [wds_len, List.length_take]; congr 1; omega
  unfold wds0
  split
  · rw [List.length_append, e, List.length_singleton]; unfold wlen; omega
  · rw [e]; unfold wlen; omega
theorem wds0_nth (bs : List Bool) (k j : Nat) (hk : k < bs.length) (hj : j ≤ k / 64) : nth (wds0 bs k) j = ((wd (bs.take k) j : Nat) : Int) := by
  have e : (bs.take k).length = k := by rw [List.length_take]; omega
  unfold wds0
  split
  · by_cases h : j < wlen k
    · have : nth (wds (bs.take k) ++ [0]) j = nth (wds (bs.take k)) j := by
        unfold nth; simp only [List.getD, List.getElem?_append_left (show j < (wds (bs.take k)).length by rw [wds_len, e]; exact h)]
      rw [this, wds_nth (by rw [e]; exact h)]
    · obtain rfl : j = wlen k := by unfold wlen at *; omega
      have : nth (wds (bs.take k) ++ [0]) (wlen k) = 0 := by
        unfold nth; simp only [List.getD, List.getElem?_append_right (show (wds (bs.take k)).length ≤ wlen k by rw [wds_len, e]; omega), wds_len, e]; simp
      rw [this, wd_zero fun i _ => bnth_out (by rw [e]; unfold wlen at *; omega)]
      rfl
  · exact wds_nth (by rw [e]; unfold wlen; omega)
theorem wd_take_small (bs : List Bool) (k : Nat) : wd (bs.take k) (k / 64) < 2 ^ (k % 64) := by
  refine Nat.lt_pow_two_of_testBit _ fun j hj => ?_
  by_cases h : j < 64
  · rw [wd_bit _ _ _ h, bnth_take, decide_eq_false (by omega)]; rfl
  · exact wd_high (wd_lt _ _) (by omega)
theorem wd_take_same (bs : List Bool) (k j : Nat) (h : j ≠ k / 64 ∨ bnth bs k = false) : wd (bs.take (k + 1)) j = wd (bs.take k) j :=
  wd_eq (wd_lt _ _) fun i hi => by
    rw [wd_bit _ _ _ hi, bnth_take, bnth_take]
    by_cases e : 64 * j + i = k
    · rcases h with h | h
      · exact absurd (by omega) h
      · rw [e, h]; simp
    · have : decide (64 * j + i < k + 1) = decide (64 * j + i < k) := by rw [decide_eq_decide]; omega
      rw [this]
theorem wd_take_true (bs : List Bool) (k : Nat) (h : bnth bs k = true) : wd (bs.take (k + 1)) (k / 64) = wd (bs.take k) (k / 64) + 2 ^ (k % 64) := by
  have hs := wd_take_small bs k
  symm
  have e : wd (bs.take k) (k / 64) + 2 ^ (k % 64) = 2 ^ (k % 64) * 1 + wd (bs.take k) (k / 64) := by omega
  have hlt : wd (bs.take k) (k / 64) + 2 ^ (k % 64) < 2 ^ 64 := by
    have : 2 ^ (k % 64) * 2 ≤ 2 ^ 64 := by rw [← Nat.pow_succ]; exact Nat.pow_le_pow_right (by decide) (by omega)
    omega
  refine wd_eq hlt fun j hj => ?_
  rw [e, Nat.testBit_two_pow_mul_add _ hs, bnth_take]
  by_cases h1 : j < k % 64
  · rw [if_pos h1, wd_bit _ _ _ hj, bnth_take, decide_eq_true (by omega), decide_eq_true (by omega)]
  · rw [if_neg h1]
    by_cases h2 : j = k % 64
    · rw [decide_eq_true (by omega), show 64 * (k / 64) + j = k by omega, h, h2, Nat.sub_self]; rfl
    · obtain ⟨m, hm⟩ : ∃ m, j - k % 64 = m + 1 := ⟨j - k % 64 - 1, by omega⟩
      rw [decide_eq_false (by omega), hm, Nat.testBit_succ]; simp
theorem words_false (bs : List Bool) (k : Nat) (hk : k < bs.length) (h : bnth bs k = false) : wds (bs.take (k + 1)) = wds0 bs k := by
  have e : (bs.take (k + 1)).length = k + 1 := by rw [List.length_take]; omega
  refine nth_ext (by rw [wds_len, e, wlen_step, wds0_len bs k hk]) fun j hj => ?_
  rw [wds_len, e, wlen_step] at hj
  rw [wds_nth (by rw [e, wlen_step]; exact hj), wds0_nth bs k j hk (by omega), wd_take_same bs k j (.inr h)]
theorem words_true (bs : List Bool) (k : Nat) (hk : k < bs.length) (h : bnth bs k = true) : wds (bs.take (k + 1)) = (wds0 bs k).set (k / 64) ((wd (bs.take k) (k / 64) + 2 ^ (k % 64) : Nat) : Int) := by
  have e : (bs.take (k + 1)).length = k + 1 := by rw [List.length_take]; omega
  refine nth_ext (by rw [wds_len, e, wlen_step, List.length_set, wds0_len bs k hk]) fun j hj => ?_
  rw [wds_len, e, wlen_step] at hj
  rw [wds_nth (by rw [e, wlen_step]; exact hj), nth_set (by rw [wds0_len bs k hk]; omega)]
  by_cases c : j = k / 64
  · rw [if_pos c, c, wd_take_true bs k h]
  · rw [if_neg c, wds0_nth bs k j hk (by omega), wd_take_same bs k j (.inl c)]

theorem ncs_set (k : IntKind) (xs : List Int) (i : Nat) (v : Int) : (ncs k xs).set i (.int k v) = ncs k (xs.set i v) := by unfold ncs; rw [List.map_set]

theorem words_own {W : World} {base e n g cap : Nat} {xs ys : List Int} (h : W.ownsRow base e 1 (.slice (some ⟨g, 0, none⟩) n cap) n (ncs .u64 xs ++ [.int .u64 0])) (he : ys = xs ++ [0]) : W.ownsRow base e 1 (.slice (some ⟨g, 0, none⟩) n cap) n (ncs .u64 ys) := by
  rw [he, ← ncs_snoc]; exact h
theorem words_open {W : World} {base e n g cap i : Nat} {ys : List Int} {v : Int} (h : W.ownsRow base e 1 (.slice (some ⟨g, 0, none⟩) n cap) n (ncs .u64 ys)) (h0 : 0 < n) (hi : i < ys.length) (hv : nth ys i = v) :
    base ≤ g ∧ n ≤ cap ∧ cap ≤ maxLen ∧ W.cell? ⟨g, i, none⟩ = some (.int .u64 v) ∧ W.frozen? ⟨g, i, none⟩ = false := by
  obtain ⟨g9, cap9, eg, g1, g2, g3, g4, g5, g6, g7⟩ := own_ints h h0
  cases eg
  obtain ⟨xb, xo, e, gc⟩ := g6 i hi
  cases e
  rw [Nat.zero_add, hv] at gc
  exact ⟨g1, g4, g5, gc, g7 i⟩

set_option maxRecDepth 100000 in
set_option maxHeartbeats 4000000 in
theorem ref04_Words {a : Option Addr} {ca : Nat} (bs : List Bool) {w : World} (h : BAt w a bs) (hl : bs.length ≤ 65536) :
    Calls Tryd.prog 47 #[.slice a bs.length ca] w (ClonedInts .u64 (wds bs) w) := by
  obtain ⟨i0, hi0, hz0, hz1, hz2⟩ := info_parts info_w64
  have H := Lib.hid h
  clear h
  go_enter Tryd.func47, Tryd.ntmps47
  go_wp2_with fail
  go_loopw [3, 4] (fun sv i wr => ∃ k : Nat, k ≤ bs.length ∧ i = .int .i64 k ∧ Hid (wr.ownsRow w.heap.size 55 1 sv (wlen k) (ncs .u64 (wds (bs.take k)))) ∧ Ext w wr) (fun _ i _ => bs.length - (intOf i).toNat)
  case atStart => exact ⟨0, Nat.zero_le _, rfl, (by unfold Hid; rw [List.take_zero, show wds [] = [] by simp [wds, wlen]]; exact World.ownsRow_nil _ _ _ _), Ext.refl w⟩
  case round =>
    obtain ⟨k, hk, rfl, HO, hx⟩ := hrel
    obtain ⟨wo, rfl⟩ : ∃ wo : World, wo = wr := ⟨_, rfl⟩
    by_cases hlt : k < bs.length
    · obtain ⟨x, o, rfl, hc⟩ := H.out.pos (by omega)
      have z0 := hc k hlt
      have z1 := hx.cell z0
      have Z1 := Lib.hid z0
      have hsz := hx.size
      have hw1 : wlen k ≤ 1024 := by unfold wlen; omega
      have hm63 : wlen k + 1 ≤ maxLen := by unfold maxLen; omega
      have HM := Lib.hid hm63
      have WF := Lib.hid (words_false bs k hlt)
      have WT := Lib.hid (words_true bs k hlt)
      have L0 := Lib.hid (wds0_len bs k hlt)
      have N0 := Lib.hid (wds0_nth bs k (k / 64) hlt (Nat.le_refl _))
      have SM := Lib.hid (wd_take_small bs k)
      have hwk : wlen k + (if k % 64 = 0 then 1 else 0) = k / 64 + 1 := by unfold wlen; split <;> omega
      have hwk1 := wlen_step k
      clear hm63 hc z0
      by_cases h64 : k % 64 = 0
      · have t1 : ((k : Int) % 64 == 0) = true := by simp; omega
        have e0 : wds0 bs k = wds (bs.take k) ++ [0] := by unfold wds0; rw [if_pos h64]
        rw [if_pos h64] at hwk
        have E0 := Lib.hid e0
        clear e0
        cases hv : bnth bs k
        · rw [hv] at z1 Z1
          have HV := Lib.hid hv
          clear hv z1
          go_wp2_with (at_builtin; refine wpList_append_lies _ rfl (.tmp 14) (.tmp 15) 51 rfl w.heap.size 55 i0 (.int .u64 0) 1 8 Tryd.underlying51 hi0 hz0 hz1 hz2 rfl (by decide) _ _ (ncs .u64 (wds (bs.take k))) rfl (HO.out.alloc _) ⟨wo.heap.size, 0, none⟩ 1 1 [.int .u64 0] rfl rfl (news1 _ _ _) (one1 rfl) (by omega) (by have := HM.out; omega) (by omega) (by simp; omega) (wo.heap.size + 1) (by simp) ?_; intro gg cap w2 hown2 hgrow hat hlt2; have HW := Lib.hid hown2; have hx2 := (hx.alloc (.cells #[.int .u64 0] 55)).grown hgrow fun k e => (HO.out.lt k e).1; have z2 := hx2.cell Z1.out; clear hown2 hgrow hat hlt2)
          go_roundw
          case rel => exact ⟨k + 1, by omega, by go_num, by unfold Hid; rw [hwk1, WF.out HV.out, E0.out, ← hwk, ← ncs_snoc]; exact HW.out, hx2⟩
          case measure => simp [intOf]; omega
        · rw [hv] at z1 Z1
          have HV := Lib.hid hv
          have SW := Lib.hid (show IntKind.u64.wrap (((wd (bs.take k) (k / 64) : Nat) : Int) + IntKind.u64.wrap (2 ^ (k % 64))) = ((wd (bs.take k) (k / 64) + 2 ^ (k % 64) : Nat) : Int) by
            rw [pow_wrap, wrapA]
            have := wd_lt (bs.take (k + 1)) (k / 64)
            rw [wd_take_true bs k hv] at this
            exact this)
          clear hv z1
          generalize wd (bs.take k) (k / 64) = wv at *
          have HWK := Lib.hid hwk; have H64 := Lib.hid h64
          clear hwk h64
          go_wp2_with (at_builtin; refine wpList_append_lies _ rfl (.tmp 14) (.tmp 15) 51 rfl w.heap.size 55 i0 (.int .u64 0) 1 8 Tryd.underlying51 hi0 hz0 hz1 hz2 rfl (by decide) _ _ (ncs .u64 (wds (bs.take k))) rfl (HO.out.alloc _) ⟨wo.heap.size, 0, none⟩ 1 1 [.int .u64 0] rfl rfl (news1 _ _ _) (one1 rfl) (by omega) (by have := HM.out; omega) (by omega) (by simp; omega) (wo.heap.size + 1) (by simp) ?_; intro gg cap w2 hown2 hgrow hat hlt2; have HW := Lib.hid hown2; have hx2 := (hx.alloc (.cells #[.int .u64 0] 55)).grown hgrow fun k e => (HO.out.lt k e).1; have z2 := hx2.cell Z1.out; have HO2 := Lib.hid (words_own hown2 E0.out); have q1 : 0 < wlen k + 1 := Nat.succ_pos _; have q2 : k / 64 < (wds0 bs k).length := (by rw [L0.out]; exact Nat.lt_succ_self _); have q3 := words_open HO2.out q1 q2 N0.out; obtain ⟨g1, g4, g5, gc, gf⟩ := q3; have hwi : k / 64 < wlen k + 1 := (by rw [HWK.out]; exact Nat.lt_succ_self _); clear q1 q2 hown2 hgrow hat hlt2)
          rw [SW.out]
          have ST := Lib.hid (World.ownsRow.stored HO2.out (k / 64) (.int .u64 ((wv + 2 ^ (k % 64) : Nat) : Int))).1
          go_roundw
          case rel => exact ⟨k + 1, by omega, by go_num, by unfold Hid; rw [hwk1, WT.out HV.out, ← ncs_set, ← HWK.out]; exact ST.out, hx2.setCell g1 _⟩
          case measure => simp [intOf]; omega
      · have t1 : ((k : Int) % 64 == 0) = false := by simp; omega
        have e0 : wds0 bs k = wds (bs.take k) := by unfold wds0; rw [if_neg h64]
        rw [if_neg h64, Nat.add_zero] at hwk
        have E0 := Lib.hid e0
        clear e0
        cases hv : bnth bs k
        · rw [hv] at z1
          have HV := Lib.hid hv
          clear hv
          go_wp2_with fail
          go_roundw
          case rel => exact ⟨k + 1, by omega, by go_num, by unfold Hid; rw [hwk1, WF.out HV.out, E0.out, ← hwk]; exact HO.out, hx⟩
          case measure => simp [intOf]; omega
        · rw [hv] at z1
          have HV := Lib.hid hv
          clear hv
          obtain ⟨g, cap, rfl, g1, g2, g3, g4, g5, g6, g7⟩ := own_ints HO.out (by omega)
          obtain ⟨xb, xo, e, gc⟩ := g6 (k / 64) (by rw [← E0.out, L0.out]; omega)
          cases e
          rw [Nat.zero_add, ← E0.out, N0.out] at gc
          have gf := g7 (k / 64)
          have hp := Nat.two_pow_pos (k % 64)
          have ws := wd_take_small bs k
          have hp64 := pow_64 k
          have SW := Lib.hid (show IntKind.u64.wrap (((wd (bs.take k) (k / 64) : Nat) : Int) + IntKind.u64.wrap (2 ^ (k % 64))) = ((wd (bs.take k) (k / 64) + 2 ^ (k % 64) : Nat) : Int) by
            rw [pow_wrap, wrapA]
            have := wd_lt (bs.take (k + 1)) (k / 64)
            rw [wd_take_true bs k HV.out] at this
            exact this)
          have ST := Lib.hid (World.ownsRow.stored HO.out (k / 64) (.int .u64 ((wd (bs.take k) (k / 64) + 2 ^ (k % 64) : Nat) : Int))).1
          have hwi : k / 64 < wlen k := by omega
          clear g3 g6 g7 hp ws hp64
          generalize wd (bs.take k) (k / 64) = wv at *
          go_wp2_with fail
          rw [SW.out]
          go_roundw
          case rel => exact ⟨k + 1, by omega, by go_num, by unfold Hid; rw [hwk1, WT.out HV.out, E0.out, ← ncs_set, ← hwk]; exact ST.out, hx.setCell g1 _⟩
          case measure => simp [intOf]; omega
    · obtain rfl : k = bs.length := by omega
      have ho := HO.out
      rw [List.take_length] at ho
      obtain ⟨a, cap, hsv, hnb⟩ := newInts_of (xs := wds bs) (by rw [wds_len]; exact ho)
      subst hsv
      go_wp2_with fail
      go_ret
      exact ⟨a, cap, by rw [wds_len]; rfl, hnb, hx⟩

end Go.Proofs.YtfhnjecnamgpkaaDoor
