/-
  Merged texts: Ref07e.
-/
import Derived.Test.YtnbngcagnchkdaaGreatDoorQ10
set_option linter.unusedVariables false
set_option linter.unusedSimpArgs false
/-! commonageref07: All. -/
namespace Go.Proofs.YtnbngcagnchkdaaGreatDoor
open Go.RowKit

set_option maxRecDepth 100000 in
set_option maxHeartbeats 8000000 in
theorem ref07_All {P : Nat → Prop} {d cap : Nat} {c : Conf} {ws : List Int} {w : World} (h : DocAt P w d c ws) :
    Calls Tryz.prog 19 #[.agg #[.slice (some ⟨d, 0, none⟩) c.ts.length cap]] w (ClonedInts .u64 ws w) := by
  obtain ⟨j0, hj0, hy0, hy1, hy2⟩ := info_parts info_w64
  obtain ⟨z, hz⟩ : ∃ z, w.heap.size = z := ⟨_, rfl⟩
  have hx := (Ext.refl w).alloc (.cells #[.slice (some ⟨d, 0, none⟩) c.ts.length cap] 36)
  have BX := Lib.hid (box_new w (.slice (some ⟨d, 0, none⟩) c.ts.length cap) 36 hz)
  have t8 := h.ok.head.2.2.2.1
  have tl := h.ok.total_le
  have H := Lib.hid h
  clear h
  go_enter Tryz.func19, Tryz.ntmps19
  go_wp2_with fail
  go_loopw [3, 4] (fun sv kv wr => ∃ k : Nat, k ≤ c.ts.length ∧ kv = .int .i64 k ∧ Hid (wr.ownsRow (z + 1) 27 1 sv (baseN c k) (ncs .u64 (ws.take (baseN c k)))) ∧ Ext (w.alloc (.cells #[.slice (some ⟨d, 0, none⟩) c.ts.length cap] 36)) wr) (fun _ kv _ => c.ts.length - (intOf kv).toNat)
  case atStart => exact ⟨0, Nat.zero_le _, rfl, World.ownsRow_nil _ _ _ _, Ext.refl _⟩
  case round =>
    obtain ⟨k, hk, rfl, HO, h1⟩ := hrel
    have b0 := (box_up BX.out h1).1
    by_cases hlt : k < c.ts.length
    · obtain ⟨g, rc, _, g1, g2⟩ := (H.out.ext (hx.trans h1)).row k hlt
      have wp := H.out.ok.words_pos hlt
      have win := H.out.ok.region_in hlt
      have WL := Lib.hid (regionL_len H.out.ok hlt H.out.len)
      have TR := Lib.hid (take_region ws H.out.ok hlt)
      have BS := Lib.hid (H.out.ok.baseN_succ hlt)
      have HNW : Hid (∀ q u, (ncs .u64 (regionL c ws k))[q]? = some u → wr.cell? ((⟨g, 0, none⟩ : Addr).add q) = some u) := Lib.hid (ncs_news fun q hq => by
        obtain ⟨b', o', e, hc⟩ := g2 q hq
        cases e
        exact hc)
      have hsz := h1.size
      simp only [World.size_alloc] at hsz
      clear g2
      go_wp2_with (at_builtin; refine wpList_append_own _ rfl (.tmp 12) (.tmp 17) 52 rfl (z + 1) 27 j0 (.int .u64 0) 1 8 Tryz.underlying52 hj0 hy0 hy1 hy2 rfl (by decide) u3 (baseN c k) (ncs .u64 (ws.take (baseN c k))) rfl HO.out ⟨g, 0, none⟩ (wordsN c k) rc (ncs .u64 (regionL c ws k)) rfl (by rw [ncs_len, WL.out, Nat.mul_one]) (fun j u hj => HNW.out j u hj) (ncs_one _ _) (by unfold maxLen; omega) (by omega) (by omega) ?_; intro v' w2 hown hgrow hnil; have x2 := h1.grown hgrow fun k' e => (by have := (HO.out.lt k' e).1; simp; omega); have HO2 : Hid (w2.ownsRow (z + 1) 27 1 v' (baseN c (k + 1)) (ncs .u64 (ws.take (baseN c (k + 1))))) := Lib.hid (by rw [TR.out, BS.out]; unfold ncs at hown ⊢; rw [List.map_append]; exact hown); clear hown hgrow hnil)
      go_roundw
      case rel => exact ⟨k + 1, by omega, by go_num, HO2, x2⟩
      case measure => simp [intOf]; omega
    · obtain rfl : k = c.ts.length := by omega
      have TT := Lib.hid (take_total H.out.len)
      have LL := Lib.hid (show baseN c c.ts.length = ws.length from H.out.len.symm)
      have ho := HO.out
      rw [TT.out, LL.out] at ho
      have hz1 : (w.alloc (.cells #[.slice (some ⟨d, 0, none⟩) c.ts.length cap] 36)).heap.size = z + 1 := by simp [hz]
      rw [← hz1] at ho
      obtain ⟨a, cap, rfl, hn⟩ := newInts_of ho
      have HNI := Lib.hid hn
      clear hn HO ho
      go_wp2_with fail
      go_ret
      exact ⟨a, cap, rfl, HNI.out.lower hx.size, hx.trans h1⟩

end Go.Proofs.YtnbngcagnchkdaaGreatDoor
