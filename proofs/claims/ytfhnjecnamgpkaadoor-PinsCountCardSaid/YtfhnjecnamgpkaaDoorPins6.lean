/-
  pins: the slots that are pinned, in order (plain), and All.
-/
import Derived.Test.YtfhnjecnamgpkaaDoorPins5
namespace Go.Proofs.YtfhnjecnamgpkaaDoor
open Go.RowKit

theorem nth_out {xs : List Int} {i : Nat} (h : xs.length ≤ i) : nth xs i = 0 := by unfold nth; simp [List.getD, h]
theorem pbs_nth (ms : List Int) (i : Nat) : bnth (pbs ms) i = decide (0 < nth ms i) := by
  by_cases h : i < ms.length
  · unfold pbs bnth nth; simp [List.getD, h]
  · rw [bnth_out (by rw [pbs_len]; omega), nth_out (by omega)]; simp

/-- The slots below k that are pinned, in order. -/
def pall (ms : List Int) : Nat → List Int
  | 0 => []
  | k + 1 => if 0 < nth ms k then pall ms k ++ [(k : Int)] else pall ms k
theorem pall_yes {ms : List Int} {k : Nat} (h : 0 < nth ms k) : pall ms (k + 1) = pall ms k ++ [(k : Int)] := by
  show (if 0 < nth ms k then pall ms k ++ [(k : Int)] else pall ms k) = _
  rw [if_pos h]
theorem pall_no {ms : List Int} {k : Nat} (h : ¬ 0 < nth ms k) : pall ms (k + 1) = pall ms k := by
  show (if 0 < nth ms k then pall ms k ++ [(k : Int)] else pall ms k) = _
  rw [if_neg h]
theorem pall_flat (ms : List Int) (a : Nat) : ∀ n, (∀ j, a ≤ j → j < a + n → ¬ 0 < nth ms j) → pall ms (a + n) = pall ms a
  | 0, _ => rfl
  | n + 1, h => by
    rw [← Nat.add_assoc, pall_no (h _ (by omega) (by omega)), pall_flat ms a n fun j h1 h2 => h j h1 (by omega)]
theorem pall_flat' {ms : List Int} {a b : Nat} (hab : a ≤ b) (h : ∀ j, a ≤ j → j < b → ¬ 0 < nth ms j) : pall ms b = pall ms a := by
  obtain ⟨n, rfl⟩ := Nat.exists_eq_add_of_le hab
  exact pall_flat ms a n h
theorem pall_len (ms : List Int) : ∀ k, (pall ms k).length = bcnt (pbs ms) k
  | 0 => rfl
  | k + 1 => by
    rw [bcnt_succ, pbs_nth, ← pall_len ms k]
    by_cases h : 0 < nth ms k
    · rw [pall_yes h]; simp [h]
    · rw [pall_no h]; simp [h]
theorem pall_small (ms : List Int) (k : Nat) : (pall ms k).length ≤ k := by rw [pall_len]; exact bcnt_le _ _
theorem pall_hit {ms : List Int} {a p : Nat} (h : IsNext (pbs ms) a true p true) : pall ms (p + 1) = pall ms a ++ [(p : Int)] ∧ a ≤ p ∧ p < ms.length ∧ 0 < nth ms p := by
  rcases h with ⟨_, i, e, h1, h2, h3, h4⟩ | ⟨h, _⟩
  · have e' : p = i := by omega
    subst e'
    rw [pbs_nth] at h3
    rw [pbs_len] at h2
    have hp : 0 < nth ms p := by simpa using h3
    rw [pall_yes hp, pall_flat' (a := a) (by omega) fun j hj hl => ?_]
    · exact ⟨rfl, by omega, h2, hp⟩
    · have := h4 j (by omega) hl
      rw [pbs_nth] at this
      simpa using this
  · cases h
theorem pall_end {ms : List Int} {a : Nat} {p : Int} (h : IsNext (pbs ms) a true p false) (ha : a ≤ ms.length) : pall ms ms.length = pall ms a := by
  rcases h with ⟨h, _⟩ | ⟨_, _, h4⟩
  · cases h
  · refine pall_flat' ha fun j hj hl => ?_
    have := h4 j (by omega) (by rw [pbs_len]; exact hl)
    rw [pbs_nth] at this
    simpa using this

theorem info_i64 : (Tryd.prog.info? 3).map (fun i => (i.zero, i.size, i.bytes)) = some (some (.int .i64 0), 1, 8) := by kernel_rfl

set_option maxRecDepth 100000 in
set_option maxHeartbeats 4000000 in
theorem pins_All {b rb rg g : Nat} (ms : List Int) {w : World} (h : PinAt w b rb rg g ms) (hT : Tab w) :
    Calls Tryd.prog 44 #[.pointer (some ⟨b, 0, none⟩)] w (ClonedInts .i64 (pall ms ms.length) w) := by
  obtain ⟨i0, hi0, hz0, hz1, hz2⟩ := info_parts info_i64
  have H := Lib.hid h; have HT := Lib.hid hT
  have hm := h.most
  obtain ⟨p, q, hpq⟩ := next_exists (pbs ms) ((0 : Nat) : Int) true
  have PQ := Lib.hid hpq
  clear h hT hpq
  go_enter Tryd.func44, Tryd.ntmps44
  go_wp2_with fail
  refine (pins_Next ms p q H.out HT.out PQ.out).mono ?_
  rintro e w1 ⟨rfl, x⟩
  have X1 := Lib.hid x
  clear x
  go_wp2_with fail
  go_loopw [3, 4, 5] (fun sv pv qv wr => ∃ (k : Nat) (p : Int) (q : Bool), k ≤ ms.length ∧ pv = .int .i64 p ∧ qv = .bool q ∧ Hid (IsNext (pbs ms) k true p q) ∧ Hid (wr.ownsRow w.heap.size 3 1 sv (pall ms k).length (ncs .i64 (pall ms k))) ∧ Hid (Ext w wr)) (fun _ pv qv _ => match qv with | .bool true => ms.length + 1 - (intOf pv).toNat | _ => 0)
  case atStart => exact ⟨0, p, q, Nat.zero_le _, rfl, rfl, PQ, World.ownsRow_nil _ _ _ _, X1⟩
  case round =>
    obtain ⟨k, p, q, hk, rfl, rfl, HN, HO, HX⟩ := hrel
    obtain ⟨wo, rfl⟩ : ∃ wo : World, wo = wr := ⟨_, rfl⟩
    cases q
    · have PE := Lib.hid (pall_end HN.out hk)
      have HO2 := Lib.hid HO.out
      rw [← PE.out] at HO2
      obtain ⟨a, cap, rfl, hn⟩ := newInts_of HO2.out
      have HNI := Lib.hid hn
      clear hn HO HO2
      go_wp2_with fail
      go_ret
      exact ⟨a, cap, rfl, HNI.out, HX.out⟩
    · obtain ⟨n, rfl⟩ : ∃ n : Nat, p = n := by
        rcases HN.out with ⟨_, i, e, _⟩ | ⟨e, _⟩
        · exact ⟨i, e⟩
        · cases e
      obtain ⟨e1, h2, h3, _⟩ := pall_hit HN.out
      have E1 := Lib.hid e1
      have sm := pall_small ms k
      have hsz := HX.out.size
      obtain ⟨p', q', hpq⟩ := next_exists (pbs ms) ((n + 1 : Nat) : Int) true
      have PQ2 := Lib.hid hpq
      have qn : ∀ n', q' = true → p' = (n' : Nat) → n + 1 ≤ n' := fun n' h h' => by
        rcases hpq with ⟨_, i, e, h1, _⟩ | ⟨e, _⟩
        · omega
        · rw [h] at e; cases e
      have QN := Lib.hid (fun h : q' = true => show (n : Int) + 1 ≤ p' by
        rcases hpq with ⟨_, i, e, h1, _⟩ | ⟨e, _⟩
        · omega
        · rw [h] at e; cases e)
      clear e1 hpq qn
      generalize pall ms k = L at *
      have hm63 : L.length + 1 ≤ maxLen := by unfold maxLen; omega
      have HM := Lib.hid hm63; clear hm63
      go_wp2_with (at_builtin; refine wpList_append_lies _ rfl (.tmp 19) (.tmp 21) 63 rfl w.heap.size 3 i0 (.int .i64 0) 1 8 Tryd.underlying63 hi0 hz0 hz1 hz2 rfl (by decide) _ L.length (ncs .i64 L) rfl (HO.out.alloc _) ⟨wo.heap.size, 0, none⟩ 1 1 [.int .i64 n] rfl rfl (news1 _ _ _) (one1 rfl) (by omega) HM.out (by omega) (by simp; omega) (wo.heap.size + 1) (by simp) ?_; intro gg cap w2 hown2 hgrow hat hlt2; have HW := Lib.hid hown2; have HX2 := Lib.hid ((HX.out.alloc (.cells #[.int .i64 n] 3)).grown hgrow fun k e => (HO.out.lt k e).1); clear hown2 hgrow hat hlt2)
      refine (pins_Next ms p' q' (H.out.ext HX2.out) (HT.out.ext HX2.out) PQ2.out).mono ?_
      rintro e w3 ⟨rfl, x⟩
      have HX3 := Lib.hid (HX2.out.trans x)
      have HW3 := Lib.hid (own_ext HW.out x)
      clear x
      go_wp2_with fail
      go_roundw
      case rel => exact ⟨n + 1, p', q', by omega, rfl, rfl, PQ2, by unfold Hid; rw [E1.out, ← ncs_snoc]; simpa using HW3.out, HX3⟩
      case measure =>
        cases q'
        · simp [intOf]; omega
        · have h1 := QN.out rfl
          simp [intOf]; omega

end Go.Proofs.YtfhnjecnamgpkaaDoor
