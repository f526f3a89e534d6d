/-
  commonageref07: with, Store.
-/
import Derived.Test.YteopbobhphghhaaRef07b
namespace Go.Proofs.Yteopbobhphghhaa
open Go.RowKit

theorem own_words {w : World} {base e n : Nat} {v : Value} {xs : List Int} (h : w.ownsRow base e 1 v (0 + n) ([] ++ ncs .u64 xs)) (h0 : 0 < n) :
    ∃ g cap, v = .slice (some ⟨g, 0, none⟩) n cap ∧ base ≤ g ∧ g < w.heap.size ∧ At .u64 w (some ⟨g, 0, none⟩) xs ∧ ∀ o, w.frozen? ⟨g, o, none⟩ = false := by
  rw [Nat.zero_add, List.nil_append] at h
  obtain ⟨g, cap, rfl, h1, h2, _, h4, h5, h6, h7⟩ := own_ints h h0
  exact ⟨g, cap, rfl, h1, h2, h6, h7⟩

set_option maxRecDepth 100000 in
set_option maxHeartbeats 8000000 in
theorem ref07_with {P : Nat → Prop} {d cap i j : Nat} {x : Int} {c : Conf} {ws : List Int} {w : World} (h : DocAt P w d c ws) (hP : ∀ k, P k → k < w.heap.size) (hi : i < c.ts.length) (hj : j < wordsN c i) :
    Calls Try.prog 80 #[.agg #[.slice (some ⟨d, 0, none⟩) c.ts.length cap], .int .i64 i, .int .i64 j, .int .u64 x] w (DocMade P c (ws.set (baseN c i + j) x) w) := by
  obtain ⟨i0, hi0, hz0, hz1, hz2⟩ := info_parts info_rows
  obtain ⟨j0, hj0, hy0, hy1, hy2⟩ := info_parts info_w64
  obtain ⟨z, hz⟩ : ∃ z, w.heap.size = z := ⟨_, rfl⟩
  obtain ⟨ws', hws⟩ : ∃ l, ws.set (baseN c i + j) x = l := ⟨_, rfl⟩
  have hx := (Ext.refl w).alloc (.cells #[.slice (some ⟨d, 0, none⟩) c.ts.length cap] 48)
  have BX := Lib.hid (box_new w (.slice (some ⟨d, 0, none⟩) c.ts.length cap) 48 hz)
  have HP := Lib.hid hP
  have t8 := h.ok.head.2.2.2.1
  have tl := h.ok.total_le
  have hl := h.len
  have ES : Hid (regionL c ws' i = (regionL c ws i).set j x) := Lib.hid (by rw [← hws]; exact regionL_set x h.ok hi hl hj)
  have EF : Hid (∀ s, s < c.ts.length → s ≠ i → regionL c ws' s = regionL c ws s) := Lib.hid fun s hs hne => by rw [← hws]; exact regionL_far x h.ok hi hs hne hl hj
  have EL : Hid (ws'.length = totalN c) := Lib.hid (by rw [← hws, List.length_set]; exact hl)
  have H := Lib.hid h
  rw [hws]
  clear hws h hP hl
  go_enter Try.func80, Try.ntmps80
  go_wp2_with fail
  have R0 : Hid (RowsR P ((w.alloc (.cells #[.slice (some ⟨d, 0, none⟩) c.ts.length cap] 48)).alloc (.cells #[.slice none 0 0] 48)) c ws' (z + 1 + 1) 0 (.slice none 0 0) [] (((w.alloc (.cells #[.slice (some ⟨d, 0, none⟩) c.ts.length cap] 48)).alloc (.cells #[.slice none 0 0] 48)).alloc (.cells #[.slice none 0 0] 48))) := Lib.hid (by
    obtain ⟨q0, qf⟩ := box_new ((w.alloc (.cells #[.slice (some ⟨d, 0, none⟩) c.ts.length cap] 48)).alloc (.cells #[.slice none 0 0] 48)) (.slice none 0 0) 48 (b := z + 1 + 1) (by simp [hz])
    exact RowsR.start q0 qf (by simp [hz]) ((Ext.refl _).alloc _))
  go_loopw [10] (fun kv wr => ∃ (k : Nat) (sv : Value) (vs : List Value), k ≤ c.ts.length ∧ kv = .int .i64 k ∧ Hid (RowsR P ((w.alloc (.cells #[.slice (some ⟨d, 0, none⟩) c.ts.length cap] 48)).alloc (.cells #[.slice none 0 0] 48)) c ws' (z + 1 + 1) k sv vs wr)) (fun kv _ => c.ts.length - (intOf kv).toNat)
  case atStart => exact ⟨0, _, _, Nat.zero_le _, rfl, R0⟩
  case round =>
    clear R0
    obtain ⟨k, sv, vs, hk, rfl, PR⟩ := hrel
    have h1 := Lib.hid (show Ext (w.alloc (.cells #[.slice (some ⟨d, 0, none⟩) c.ts.length cap] 48)) wr from ((Ext.refl _).alloc _).trans PR.out.ext)
    have b0 := (box_up BX.out h1.out).1
    by_cases hlt : k < c.ts.length
    · obtain ⟨g, rc, hg⟩ := H.out.row k hlt
      have HG := Lib.hid hg
      have g1 := (hx.trans h1.out).cell hg.2.1
      have wp := H.out.ok.words_pos hlt
      have win := H.out.ok.region_in hlt
      have p1 := PR.out.c0
      have hb2 : z + 1 + 1 < wr.heap.size := cell_lt p1
      have WL := Lib.hid (regionL_len H.out.ok hlt H.out.len)
      clear hg
      by_cases hik : k = i
      · obtain rfl := hik
        have t0 : ((k : Int) == (k : Int)) = true := by simp
        have HNW : Hid (∀ q u, (ncs .u64 (regionL c ws k))[q]? = some u → wr.cell? ((⟨g, 0, none⟩ : Addr).add q) = some u) := Lib.hid (ncs_news fun q hq => by
          obtain ⟨b', o', e, hc⟩ := HG.out.2.2 q hq
          cases e
          exact (hx.trans h1.out).cell hc)
        go_wp2_with (first | (at_builtin; refine wpList_append_own _ rfl (.tmp 27) (.tmp 28) 38 rfl wr.heap.size 34 j0 (.int .u64 0) 1 8 Try.underlying38 hj0 hy0 hy1 hy2 rfl (by decide) (.slice (some ⟨wr.heap.size, 0, none⟩) 0 0) 0 [] rfl (World.ownsRow_made _ #[] 0 (Nat.le_refl _) (by decide) rfl) ⟨g, 0, none⟩ (wordsN c k) rc (ncs .u64 (regionL c ws k)) rfl (by rw [ncs_len, WL.out, Nat.mul_one]) (fun j u hj => cell_alloc (HNW.out j u hj) _) (ncs_one _ _) (by unfold maxLen; omega) (by omega) (by simp) ?_; intro v' w2 hown hgrow hnil; obtain ⟨g2, rc2, rfl, lo2, lt2, ha2, hf2⟩ := own_words hown wp; have x2 : Ext wr w2 := Ext.of (((Ext.refl wr).alloc (.cells #[] 34)).below.grown hgrow (by simp) (fun k e => by cases e; exact Nat.le_refl _)); have cj := ha2 j (by rw [WL.out]; exact hj); obtain ⟨b', o', e', cj⟩ := cj; cases e'; rw [Nat.zero_add] at cj; have fj := hf2 j; have A3 : Hid (At .u64 (w2.setCell ⟨g2, j, none⟩ (.int .u64 x)) (some ⟨g2, 0, none⟩) (regionL c ws' k)) := Lib.hid (by rw [ES.out]; exact ha2.set (by rw [WL.out]; exact hj) x); have X3 := Lib.hid (show Ext wr (w2.setCell ⟨g2, j, none⟩ (.int .u64 x)) from x2.setCell (p := ⟨g2, j, none⟩) lo2 _); have NP := Lib.hid (show ¬ P g2 from fun q => by have := HP.out _ q; omega); have HPO := Lib.hid (show 0 < (regionL c ws' k).length by rw [ES.out, List.length_set, WL.out]; exact wp); clear hown hgrow hnil ha2 hf2; have PR2 := Lib.hid (PR.out.go X3.out); clear p1; have p1 := PR2.out.c0; have hb3 : z + 1 + 1 < w2.heap.size := (by have := x2.size; omega)) | (at_builtin; refine wpList_append_lies _ rfl (.tmp 35) (.tmp 37) 37 rfl (z + 1 + 1 + 1) 38 i0 (.slice none 0 0) 1 24 Try.underlying37 hi0 hz0 hz1 hz2 rfl (by decide) sv k vs rfl (own_ext PR2.out.own ((Ext.refl _).alloc _)) ⟨w2.heap.size, 0, none⟩ 1 1 [.slice (some ⟨g2, 0, none⟩) (wordsN c k) rc2] rfl rfl (newsb _ _ (by simp)) (one1 rfl) (by decide) (by unfold maxLen; omega) (by omega) (by simp; omega) (w2.heap.size + 1) (by simp) ?_; intro gg cap w4 hown hgrow hat hlt4; obtain ⟨q1, qf⟩ := PR2.out.grown ((Ext.refl _).alloc _) hgrow; have PR4 := Lib.hid (PR2.out.push ((Ext.refl _).alloc _) hgrow hown NP.out (A3.out.ext ((Ext.refl _).alloc _)) HPO.out); clear hown hgrow hat))
        go_roundw
        case rel => exact ⟨k + 1, _, _, by omega, by go_num, PR4⟩
        case measure => simp [intOf]; omega
      · have t0 : ((k : Int) == (i : Int)) = false := by simp; omega
        have A3 : Hid (At .u64 wr (some ⟨g, 0, none⟩) (regionL c ws' k)) := Lib.hid (by rw [EF.out k hlt hik]; exact HG.out.2.2.ext (hx.trans h1.out))
        have NP := Lib.hid HG.out.1
        have HPO := Lib.hid (show 0 < (regionL c ws' k).length by rw [EF.out k hlt hik, WL.out]; exact wp)
        have PR2 := PR
        go_wp2_with (at_builtin; refine wpList_append_lies _ rfl (.tmp 35) (.tmp 37) 37 rfl (z + 1 + 1 + 1) 38 i0 (.slice none 0 0) 1 24 Try.underlying37 hi0 hz0 hz1 hz2 rfl (by decide) sv k vs rfl (own_ext PR2.out.own ((Ext.refl _).alloc _)) ⟨wr.heap.size, 0, none⟩ 1 1 [.slice (some ⟨g, 0, none⟩) (wordsN c k) rc] rfl rfl (newsb _ _ (by simp)) (one1 rfl) (by decide) (by unfold maxLen; omega) (by omega) (by simp; omega) (wr.heap.size + 1) (by simp) ?_; intro gg cap w4 hown hgrow hat hlt4; obtain ⟨q1, qf⟩ := PR2.out.grown ((Ext.refl _).alloc _) hgrow; have PR4 := Lib.hid (PR2.out.push ((Ext.refl _).alloc _) hgrow hown NP.out (A3.out.ext ((Ext.refl _).alloc _)) HPO.out); clear hown hgrow hat)
        go_roundw
        case rel => exact ⟨k + 1, _, _, by omega, by go_num, PR4⟩
        case measure => simp [intOf]; omega
    · obtain rfl : k = c.ts.length := by omega
      obtain ⟨d2, cap2, rfl, hd, zd⟩ := PR.out.doc H.out.ok EL.out (fun k q => by have := HP.out k q; have := hx.size; simp; omega)
      have DD := Lib.hid hd
      have p1 := PR.out.c0
      have X := Lib.hid PR.out.ext
      obtain ⟨q0, qf⟩ := box_up (box_new (w.alloc (.cells #[.slice (some ⟨d, 0, none⟩) c.ts.length cap] 48)) (.slice none 0 0) 48 (b := z + 1) (by simp [hz])) X.out
      clear PR h1 hd
      go_wp2_with fail
      have q1 := World.cell?_setCell_same wr ⟨z + 1, 0, none⟩ (.slice (some ⟨d2, 0, none⟩) c.ts.length cap2) q0
      refine bodyPost_ret (v := .agg #[.slice (some ⟨d2, 0, none⟩) c.ts.length cap2]) (by simp [results, Try.results80, go_sem, q1]) rfl ⟨d2, cap2, rfl, ?_, by omega, ?_⟩
      · exact DD.out.off (by omega) q0 (by intro x e; cases e) _
      · exact (hx.trans (((Ext.refl _).alloc _).trans X.out)).setCell (p := ⟨z + 1, 0, none⟩) (by show w.heap.size ≤ z + 1; omega) _

end Go.Proofs.Yteopbobhphghhaa
