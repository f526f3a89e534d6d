/-
  The function that bits.Row's from hands back: its contract as an iterator.
-/
import Derived.Test.YtfhnjecnamgpkaaDoorNext
import Derived.Test.YtfhnjecnamgpkaaDoorNextP
import Derived.Stop.RegionWithIn
namespace Go.Proofs.YtfhnjecnamgpkaaDoor
open Go.RowKit Go.Shelf
attribute [local go_sem] Oper.semAt_some

/-- What a round is handed: a word's number, and a word. -/
abbrev Item := { x : Nat × Nat // x.1 < 1024 ∧ x.2 < 18446744073709551616 }
def encItem (x : Item) : Array Value := #[.int .i64 (x.1.1 : Int), .int .u64 (x.1.2 : Int)]
def fitem (bs : List Bool) (is : Bool) (i j : Nat) : Item := if h : i / 64 + j < 1024 then ⟨(i / 64 + j, wf bs is i (i / 64 + j)), h, wf_lt _ _ _ _⟩ else ⟨(0, 0), by decide, by decide⟩
theorem fitem_fst {bs : List Bool} {is : Bool} {i j : Nat} (h : i / 64 + j < 1024) : (fitem bs is i j).1.1 = i / 64 + j := by unfold fitem; rw [dif_pos h]
theorem fitem_snd {bs : List Bool} {is : Bool} {i j : Nat} (h : i / 64 + j < 1024) : (fitem bs is i j).1.2 = wf bs is i (i / 64 + j) := by unfold fitem; rw [dif_pos h]

set_option maxRecDepth 100000 in
set_option maxHeartbeats 4000000 in
theorem from1_in (n : Nat) (hn : 1 ≤ n) (l n₀ Bi Br Bt b g i : Nat) (bs : List Bool) (is : Bool) (hi : i < bs.length) (hBi : Bi < n₀) (hBr : Br < n₀) (hBt : Bt < n₀) (hb : b < n₀) (hg : g < n₀) (J Jx : List Item → World → Prop) (hJd : ∀ pre W, J pre W → J pre W.drew)
    (hY : ∀ pre x W, J pre W → pre.length < wlen bs.length - i / 64 → YieldAt Fence.wide (n - 1) Tryd.prog l (encItem x) W fun e W' =>
      (e = .returned (.bool true) ∧ J (pre ++ [x]) W' ∧ Below n₀ W W') ∨ (e = .returned (.bool false) ∧ Jx (pre ++ [x]) W'))
    (W : World) (ci : W.cell? ⟨Bi, 0, none⟩ = some (.int .i64 i)) (cr : W.cell? ⟨Br, 0, none⟩ = some (.pointer (some ⟨b, 0, none⟩))) (ct : W.cell? ⟨Bt, 0, none⟩ = some (.int .u64 (turnOf is : Nat))) (hr : RowAt W b g bs) (h0 : J [] W) :
    CallsIn Fence.wide n Tryd.prog 61 #[.func (.yield l) #[] #[], .pointer (some ⟨Bi, 0, none⟩), .pointer (some ⟨Br, 0, none⟩), .pointer (some ⟨Bt, 0, none⟩)] W fun e W' => (∃ v, e = .returned v) ∧
      ((∃ ys, ys = upto (fitem bs is i) (wlen bs.length - i / 64) ∧ J ys W') ∨ (∃ pre, (∃ k, k ≤ wlen bs.length - i / 64 ∧ pre = upto (fitem bs is i) k) ∧ Jx pre W')) := by
  have h65 := hr.most
  have hwl : wlen bs.length ≤ 1024 := by unfold wlen; omega
  have hiw : i / 64 < wlen bs.length := by unfold wlen; omega
  have HW := Lib.hid (hr.word (by omega))
  obtain ⟨ra, rc, r0, _, r1, r2, rg⟩ := hr.ex
  obtain ⟨rfl, _⟩ := rg (by omega)
  have CI := Lib.hid ci; have CR := Lib.hid cr; have CT := Lib.hid ct; have C0 := Lib.hid r0
  have HY := Lib.hid hY
  unfold maxLen at r2
  have ah0 : IntKind.u64.wrap (IntKind.u64.wrap (2 ^ (i % 64)) - 1) = ((aheadOf i (i / 64) : Nat) : Int) := by
    have hp := pow_64 i
    have hp1 := Nat.two_pow_pos (i % 64)
    rw [pow_wrap]
    unfold aheadOf
    rw [if_pos rfl, show ((2 ^ (i % 64) : Nat) : Int) - 1 = ((2 ^ (i % 64) - 1 : Nat) : Int) by omega, wrapN (by omega)]
  clear hr rg hY
  refine callsIn_of_wp Tryd.func61 rfl trivial ?_ rfl
  simp only [Tryd.ntmps61, List.size_toArray, List.length_cons, List.length_nil, Nat.reduceAdd, Nat.reduceSub, Array.replicate_succ, Array.replicate_zero, List.push_toArray, List.append_toArray, List.nil_append, List.cons_append]
  gi_wp2
  clear ci cr ct r0 ah0
  gi_loopw [5, 6] (fun a k wr => ∃ m : Nat, m ≤ wlen bs.length - i / 64 ∧ a = .int .u64 ((aheadOf i (i / 64 + m) : Nat) : Int) ∧ k = .int .i64 ((i / 64 + m : Nat) : Int) ∧ J (upto (fitem bs is i) m) wr ∧ Below n₀ W wr)
    (fun _ k _ => wlen bs.length - (intOf k).toNat)
  case atStart => exact ⟨0, Nat.zero_le _, by rw [Nat.add_zero], by simp, h0, Below.refl _ _⟩
  case round =>
    obtain ⟨m, hm, rfl, rfl, hJ, hB⟩ := hrel
    have ci := (hB.cell (p := ⟨Bi, 0, none⟩) hBi).trans CI.out
    have cr := (hB.cell (p := ⟨Br, 0, none⟩) hBr).trans CR.out
    have ct := (hB.cell (p := ⟨Bt, 0, none⟩) hBt).trans CT.out
    have r0 := (hB.cell (p := ⟨b, 0, none⟩) hb).trans C0.out
    have HJ := Lib.hid hJ
    obtain ⟨k, hk⟩ : ∃ k, i / 64 + m = k := ⟨_, rfl⟩
    rw [hk]
    by_cases hlt : k < wlen bs.length
    · have hw := (hB.cell (p := ⟨g, k, none⟩) hg).trans (HW.out k hlt)
      have WC := Lib.hid (wf_code bs is i k (by omega))
      have al := Lib.hid (ahead_lt i k)
      have wl := Lib.hid (wd_lt bs k)
      have tl := Lib.hid (turn_lt is)
      have hy0 := HY.out _ (fitem bs is i m) wr.drew (hJd _ _ hJ) (by rw [upto_length]; omega)
      have ef : encItem (fitem bs is i m) = #[.int .i64 (k : Int), .int .u64 ((wf bs is i k : Nat) : Int)] := by
        unfold encItem; rw [fitem_fst (by omega), fitem_snd (by omega), hk]
      have code : bits .andNot .u64 (bits .xor .u64 ((wd bs k : Nat) : Int) ((turnOf is : Nat) : Int)) ((aheadOf i k : Nat) : Int) = ((wf bs is i k : Nat) : Int) := by
        rw [u64_xor_nat _ _ wl.out tl.out, u64_andNot_nat _ _ (Nat.xor_lt_two_pow (n := 64) wl.out tl.out) al.out, WC.out]
      rw [ef] at hy0
      generalize wf bs is i k = v at *
      generalize turnOf is = t at *
      generalize aheadOf i k = ah at *
      generalize wd bs k = x at *
      obtain ⟨fn, tmps, assign, body, hy, hR⟩ := hy0
      have HHk := Lib.hid hk
      clear hk ef WC al wl tl hJ
      gi_wp2
      have hR2 := hR.mono (R' := fun e W' => ∃ bb : Bool, e = .returned (.bool bb) ∧ Hid ((bb = true ∧ J (upto (fitem bs is i) m ++ [fitem bs is i m]) W' ∧ Below n₀ wr.drew W') ∨ (bb = false ∧ Jx (upto (fitem bs is i) m ++ [fitem bs is i m]) W'))) (fun e W' h => by
        rcases h with ⟨rfl, h1, h2⟩ | ⟨rfl, h1⟩
        · exact ⟨true, rfl, .inl ⟨rfl, h1, h2⟩⟩
        · exact ⟨false, rfl, .inr ⟨rfl, h1⟩⟩)
      clear hR
      gi_region_with (refine hR2.mono ?_; rintro e W3 ⟨bb, rfl, hbb⟩)
      all_goals
        clear hR2 hy code
        rcases hbb.out with ⟨rfl, hJ3, hk3⟩ | ⟨rfl, hJx3⟩
        · have HJ3 := Lib.hid hJ3; have HK3 := Lib.hid hk3
          clear hbb hJ3 hk3
          gi_wp2
          go_roundw
          case rel => exact ⟨m + 1, by have := HHk.out; omega, by
            rw [← Nat.add_assoc, HHk.out]
            unfold aheadOf
            rw [if_neg (by have := HHk.out; omega)]; rfl, by rw [← Nat.add_assoc, HHk.out]; go_num, by rw [upto_succ]; exact HJ3.out, hB.trans (((Below.refl _ _).drew).trans HK3.out)⟩
          case measure => simp [intOf]; omega
        · have HX3 := Lib.hid hJx3
          clear hbb hJx3
          gi_wp2
          refine bodyPost_ret (results_none rfl _ _ _) rfl ?_
          exact ⟨⟨_, rfl⟩, .inr ⟨_, ⟨m + 1, by have := HHk.out; omega, (upto_succ _ _).symm⟩, HX3.out⟩⟩
    · obtain rfl : m = wlen bs.length - i / 64 := by omega
      have hke : k = wlen bs.length := by omega
      have HHk := Lib.hid hk
      subst hke
      clear hk
      gi_wp2
      go_end0
      exact ⟨⟨_, rfl⟩, .inl ⟨_, rfl, HJ.out⟩⟩

end Go.Proofs.YtfhnjecnamgpkaaDoor
