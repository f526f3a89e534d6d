/-
  Merged texts: Ref07b, Ref07c, Ref07d, Ref08, Ref11, Ref11b, Ref11c.
-/
import Derived.Test.YtnbngcagnchkdaaGreatDoorQ09
import Derived.Test.YtnbngcagnchkdaaGreatDoorQ07
import Derived.Test.YtnbngcagnchkdaaGreatDoorQ08
import Derived.Test.YtnbngcagnchkdaaGreatDoorQ03
set_option linter.unusedVariables false
set_option linter.unusedSimpArgs false
/-! commonageref07: In, Load, Store, Zero, All. -/
namespace Go.Proofs.YtnbngcagnchkdaaGreatDoor
open Go.RowKit

/-! ### In, Load -/
theorem partErr_one {c : Conf} {t a k : Int} (h : partErr c t a 1 = k) : (k = 2 ∧ (t < 0 ∨ (c.ts.length : Int) ≤ t)) ∨ (k = 4 ∧ ∃ i : Nat, t = i ∧ i < c.ts.length ∧ (a < 0 ∨ (wordsN c i : Int) ≤ a)) ∨ (k = 0 ∧ ∃ i j : Nat, t = i ∧ a = j ∧ i < c.ts.length ∧ j < wordsN c i) := by
  unfold partErr at h
  split at h
  · exact .inl ⟨h.symm, by assumption⟩
  · rename_i h1
    obtain ⟨i, rfl⟩ : ∃ i : Nat, t = i := ⟨t.toNat, by omega⟩
    rw [Int.toNat_natCast] at h
    split at h
    · rename_i h2
      exact .inr (.inl ⟨h.symm, i, rfl, by omega, by omega⟩)
    · rename_i h2
      exact .inr (.inr ⟨h.symm, i, a.toNat, rfl, by omega, by omega, by omega⟩)

theorem DocAt.words1 {P : Nat → Prop} {w : World} {d i : Nat} {c : Conf} {ws : List Int} (h : DocAt P w d c ws) (hi : i < c.ts.length) : ∃ g rc, w.cell? ⟨d, i, none⟩ = some (.slice (some ⟨g, 0, none⟩) (wordsN c i) rc) ∧ (∀ j, j < wordsN c i → w.cell? ⟨g, j, none⟩ = some (.int .u64 (nth ws (baseN c i + j)))) := by
  obtain ⟨g, rc, _, h1, h2⟩ := h.row i hi
  exact ⟨g, rc, h1, fun j hj => h.word hi hj h2⟩

set_option maxHeartbeats 4000000 in
theorem ref07_In {P : Nat → Prop} {d cap : Nat} {t a : Int} (k : Int) {c : Conf} {ws : List Int} {w : World} (h : DocAt P w d c ws) (hr : partErr c t a 1 = k) :
    Calls Tryz.prog 58 #[.agg #[.slice (some ⟨d, 0, none⟩) c.ts.length cap], .int .i64 t, .int .i64 a] w fun e w' => e = .returned (.int .i64 k) ∧ Ext w w' := by
  have t8 := h.ok.head.2.2.2.1
  have hx := (Ext.refl w).alloc (.cells #[.slice (some ⟨d, 0, none⟩) c.ts.length cap] 36)
  have hl := h.lt
  rcases partErr_one hr with ⟨rfl, ht⟩ | ⟨rfl, i, rfl, hi, ha⟩ | ⟨rfl, i, j, rfl, rfl, hi, hj⟩
  · clear h hr hl
    by_cases h0 : t < 0
    · have t0 : decide (t < 0) = true := by simpa using h0
      clear ht
      go_enter Tryz.func58, Tryz.ntmps58
      go_wp2_with fail
      go_ret
      exact ⟨rfl, hx⟩
    · have t0 : decide (t < 0) = false := by simpa using h0
      have t1 : decide ((c.ts.length : Int) ≤ t) = true := by simp; omega
      clear ht
      go_enter Tryz.func58, Tryz.ntmps58
      go_wp2_with fail
      go_ret
      exact ⟨rfl, hx⟩
  · obtain ⟨g, rc, h1, _⟩ := h.words1 hi
    have t0 : decide ((i : Int) < 0) = false := by simp
    have t1 : decide ((c.ts.length : Int) ≤ (i : Int)) = false := by simp; omega
    have t2 : decide (c.ts.length ≤ i) = false := by simp; omega
    clear h hr
    generalize wordsN c i = m at *
    by_cases h0 : a < 0
    · have t3 : decide (a < 0) = true := by simpa using h0
      clear ha
      go_enter Tryz.func58, Tryz.ntmps58
      go_wp2_with fail
      go_ret
      exact ⟨rfl, hx⟩
    · have t3 : decide (a < 0) = false := by simpa using h0
      have t4 : decide ((m : Int) ≤ a) = true := by simp; omega
      clear ha
      go_enter Tryz.func58, Tryz.ntmps58
      go_wp2_with fail
      go_ret
      exact ⟨rfl, hx⟩
  · obtain ⟨g, rc, h1, _⟩ := h.words1 hi
    have t0 : decide ((i : Int) < 0) = false := by simp
    have t1 : decide ((c.ts.length : Int) ≤ (i : Int)) = false := by simp; omega
    have t2 : decide (c.ts.length ≤ i) = false := by simp; omega
    clear h hr
    generalize wordsN c i = m at *
    have t3 : decide ((j : Int) < 0) = false := by simp
    have t4 : decide ((m : Int) ≤ (j : Int)) = false := by simp; omega
    have t5 : decide (m ≤ j) = false := by simp; omega
    go_enter Tryz.func58, Tryz.ntmps58
    go_wp2_with fail
    go_ret
    exact ⟨rfl, hx⟩

set_option maxHeartbeats 4000000 in
theorem ref07_Load {P : Nat → Prop} {d cap : Nat} {t a : Int} (v k : Int) {c : Conf} {ws : List Int} {w : World} (h : DocAt P w d c ws) (hr : loadR c ws t a = (v, k)) :
    Calls Tryz.prog 108 #[.agg #[.slice (some ⟨d, 0, none⟩) c.ts.length cap], .int .i64 t, .int .i64 a] w fun e w' => e = .returned (.tuple #[.int .u64 v, .int .i64 k]) ∧ Ext w w' := by
  have t8 := h.ok.head.2.2.2.1
  have hx := (Ext.refl w).alloc (.cells #[.slice (some ⟨d, 0, none⟩) c.ts.length cap] 36)
  obtain ⟨z, hz⟩ : ∃ z, w.heap.size = z := ⟨_, rfl⟩
  have bx := box_new w (.slice (some ⟨d, 0, none⟩) c.ts.length cap) 36 hz
  have BX := Lib.hid bx
  obtain ⟨q, hq⟩ : ∃ q, partErr c t a 1 = q := ⟨_, rfl⟩
  have C1 := Lib.hid (fun W (hw : Ext w W) => ref07_In (cap := cap) q (h.ext hw) hq)
  have HZ := Lib.hid hz
  unfold loadR at hr
  rcases partErr_one hq with ⟨rfl, ht⟩ | ⟨rfl, i, rfl, hi, ha⟩ | ⟨rfl, i, j, rfl, rfl, hi, hj⟩
  · rw [hq, if_neg (by decide)] at hr
    cases hr
    clear h hq ht bx hz
    go_enter Tryz.func108, Tryz.ntmps108
    go_wp2_with fail
    refine (C1.out _ hx).mono ?_
    rintro e w1 ⟨rfl, x⟩
    go_wp2_with fail
    go_ret2
    exact ⟨rfl, hx.trans x⟩
  · rw [hq, if_neg (by decide)] at hr
    cases hr
    clear h hq ha bx hz
    go_enter Tryz.func108, Tryz.ntmps108
    go_wp2_with fail
    refine (C1.out _ hx).mono ?_
    rintro e w1 ⟨rfl, x⟩
    go_wp2_with fail
    go_ret2
    exact ⟨rfl, hx.trans x⟩
  · rw [hq, if_pos rfl] at hr
    cases hr
    obtain ⟨g, rc, h3, h4⟩ := h.words1 hi
    have h5 := h4 j hj
    have X3 := Lib.hid h3; have X5 := Lib.hid h5
    clear h hq h3 h4 h5 bx hz
    simp only [Int.toNat_natCast]
    go_enter Tryz.func108, Tryz.ntmps108
    go_wp2_with fail
    refine (C1.out _ hx).mono ?_
    rintro e w1 ⟨rfl, x⟩
    have z0 := (box_up BX.out x).1
    have z1 := (hx.trans x).cell X3.out
    have z2 := (hx.trans x).cell X5.out
    rw [← HZ.out] at z0
    go_wp2_with fail
    go_ret2
    exact ⟨rfl, hx.trans x⟩

end Go.Proofs.YtnbngcagnchkdaaGreatDoor

/-! commonageref07: with, Store. -/
namespace Go.Proofs.YtnbngcagnchkdaaGreatDoor
open Go.RowKit

theorem own_words {w : World} {base e n : Nat} {v : Value} {xs : List Int} (h : w.ownsRow base e 1 v (0 + n) ([] ++ ncs .u64 xs)) (h0 : 0 < n) :
    ∃ g cap, v = .slice (some ⟨g, 0, none⟩) n cap ∧ base ≤ g ∧ g < w.heap.size ∧ At .u64 w (some ⟨g, 0, none⟩) xs ∧ ∀ o, w.frozen? ⟨g, o, none⟩ = false := by
  rw [Nat.zero_add, List.nil_append] at h
  obtain ⟨g, cap, rfl, h1, h2, _, h4, h5, h6, h7⟩ := own_ints h h0
  exact ⟨g, cap, rfl, h1, h2, h6, h7⟩

set_option maxRecDepth 100000 in
set_option maxHeartbeats 8000000 in
theorem ref07_with {P : Nat → Prop} {d cap i j : Nat} {x : Int} {c : Conf} {ws : List Int} {w : World} (h : DocAt P w d c ws) (hP : ∀ k, P k → k < w.heap.size) (hi : i < c.ts.length) (hj : j < wordsN c i) :
    Calls Tryz.prog 59 #[.agg #[.slice (some ⟨d, 0, none⟩) c.ts.length cap], .int .i64 i, .int .i64 j, .int .u64 x] w (DocMade P c (ws.set (baseN c i + j) x) w) := by
  obtain ⟨i0, hi0, hz0, hz1, hz2⟩ := info_parts info_rows
  obtain ⟨j0, hj0, hy0, hy1, hy2⟩ := info_parts info_w64
  obtain ⟨z, hz⟩ : ∃ z, w.heap.size = z := ⟨_, rfl⟩
  obtain ⟨ws', hws⟩ : ∃ l, ws.set (baseN c i + j) x = l := ⟨_, rfl⟩
  have hx := (Ext.refl w).alloc (.cells #[.slice (some ⟨d, 0, none⟩) c.ts.length cap] 36)
  have BX := Lib.hid (box_new w (.slice (some ⟨d, 0, none⟩) c.ts.length cap) 36 hz)
  have HP := Lib.hid hP
  have t8 := h.ok.head.2.2.2.1
  have tl := h.ok.total_le
  have hl := h.len
  have ES : Hid (regionL c ws' i = (regionL c ws i).set j x) := Lib.hid (by rw [← hws]; exact regionL_set x h.ok hi hl hj)
  have EF : Hid (∀ s, s < c.ts.length → s ≠ i → regionL c ws' s = regionL c ws s) := Lib.hid fun s hs hne => by rw [← hws]; exact regionL_far x h.ok hi hs hne hl hj
  have EL : Hid (ws'.length = totalN c) := Lib.hid (by rw [← hws, List.length_set]; exact hl)
  have H := Lib.hid h
  rw [hws]
  clear hws h hP hl
  go_enter Tryz.func59, Tryz.ntmps59
  go_wp2_with fail
  have R0 : Hid (RowsR P ((w.alloc (.cells #[.slice (some ⟨d, 0, none⟩) c.ts.length cap] 36)).alloc (.cells #[.slice none 0 0] 36)) c ws' (z + 1 + 1) 0 (.slice none 0 0) [] (((w.alloc (.cells #[.slice (some ⟨d, 0, none⟩) c.ts.length cap] 36)).alloc (.cells #[.slice none 0 0] 36)).alloc (.cells #[.slice none 0 0] 36))) := Lib.hid (by
    obtain ⟨q0, qf⟩ := box_new ((w.alloc (.cells #[.slice (some ⟨d, 0, none⟩) c.ts.length cap] 36)).alloc (.cells #[.slice none 0 0] 36)) (.slice none 0 0) 36 (b := z + 1 + 1) (by simp [hz])
    exact RowsR.start q0 qf (by simp [hz]) ((Ext.refl _).alloc _))
  go_loopw [10] (fun kv wr => ∃ (k : Nat) (sv : Value) (vs : List Value), k ≤ c.ts.length ∧ kv = .int .i64 k ∧ Hid (RowsR P ((w.alloc (.cells #[.slice (some ⟨d, 0, none⟩) c.ts.length cap] 36)).alloc (.cells #[.slice none 0 0] 36)) c ws' (z + 1 + 1) k sv vs wr)) (fun kv _ => c.ts.length - (intOf kv).toNat)
  case atStart => exact ⟨0, _, _, Nat.zero_le _, rfl, R0⟩
  case round =>
    clear R0
    obtain ⟨k, sv, vs, hk, rfl, PR⟩ := hrel
    have h1 := Lib.hid (show Ext (w.alloc (.cells #[.slice (some ⟨d, 0, none⟩) c.ts.length cap] 36)) wr from ((Ext.refl _).alloc _).trans PR.out.ext)
    have b0 := (box_up BX.out h1.out).1
    by_cases hlt : k < c.ts.length
    · obtain ⟨g, rc, hg⟩ := H.out.row k hlt
      have HG := Lib.hid hg
      have g1 := (hx.trans h1.out).cell hg.2.1
      have wp := H.out.ok.words_pos hlt
      have win := H.out.ok.region_in hlt
      have p1 := PR.out.c0
      have hb2 : z + 1 + 1 < wr.heap.size := cell_lt p1
      have WL := Lib.hid (regionL_len H.out.ok hlt H.out.len)
      clear hg
      by_cases hik : k = i
      · obtain rfl := hik
        have t0 : ((k : Int) == (k : Int)) = true := by simp
        have HNW : Hid (∀ q u, (ncs .u64 (regionL c ws k))[q]? = some u → wr.cell? ((⟨g, 0, none⟩ : Addr).add q) = some u) := Lib.hid (ncs_news fun q hq => by
          obtain ⟨b', o', e, hc⟩ := HG.out.2.2 q hq
          cases e
          exact (hx.trans h1.out).cell hc)
        go_wp2_with (first | (at_builtin; refine wpList_append_own _ rfl (.tmp 27) (.tmp 28) 52 rfl wr.heap.size 27 j0 (.int .u64 0) 1 8 Tryz.underlying52 hj0 hy0 hy1 hy2 rfl (by decide) (.slice (some ⟨wr.heap.size, 0, none⟩) 0 0) 0 [] rfl (World.ownsRow_made _ #[] 0 (Nat.le_refl _) (by decide) rfl) ⟨g, 0, none⟩ (wordsN c k) rc (ncs .u64 (regionL c ws k)) rfl (by rw [ncs_len, WL.out, Nat.mul_one]) (fun j u hj => cell_alloc (HNW.out j u hj) _) (ncs_one _ _) (by unfold maxLen; omega) (by omega) (by simp) ?_; intro v' w2 hown hgrow hnil; obtain ⟨g2, rc2, rfl, lo2, lt2, ha2, hf2⟩ := own_words hown wp; have x2 : Ext wr w2 := Ext.of (((Ext.refl wr).alloc (.cells #[] 27)).below.grown hgrow (by simp) (fun k e => by cases e; exact Nat.le_refl _)); have cj := ha2 j (by rw [WL.out]; exact hj); obtain ⟨b', o', e', cj⟩ := cj; cases e'; rw [Nat.zero_add] at cj; have fj := hf2 j; have A3 : Hid (At .u64 (w2.setCell ⟨g2, j, none⟩ (.int .u64 x)) (some ⟨g2, 0, none⟩) (regionL c ws' k)) := Lib.hid (by rw [ES.out]; exact ha2.set (by rw [WL.out]; exact hj) x); have X3 := Lib.hid (show Ext wr (w2.setCell ⟨g2, j, none⟩ (.int .u64 x)) from x2.setCell (p := ⟨g2, j, none⟩) lo2 _); have NP := Lib.hid (show ¬ P g2 from fun q => by have := HP.out _ q; omega); have HPO := Lib.hid (show 0 < (regionL c ws' k).length by rw [ES.out, List.length_set, WL.out]; exact wp); clear hown hgrow hnil ha2 hf2; have PR2 := Lib.hid (PR.out.go X3.out); clear p1; have p1 := PR2.out.c0; have hb3 : z + 1 + 1 < w2.heap.size := (by have := x2.size; omega)) | (at_builtin; refine wpList_append_lies _ rfl (.tmp 35) (.tmp 37) 34 rfl (z + 1 + 1 + 1) 52 i0 (.slice none 0 0) 1 24 Tryz.underlying34 hi0 hz0 hz1 hz2 rfl (by decide) sv k vs rfl (own_ext PR2.out.own ((Ext.refl _).alloc _)) ⟨w2.heap.size, 0, none⟩ 1 1 [.slice (some ⟨g2, 0, none⟩) (wordsN c k) rc2] rfl rfl (newsb _ _ (by simp)) (one1 rfl) (by decide) (by unfold maxLen; omega) (by omega) (by simp; omega) (w2.heap.size + 1) (by simp) ?_; intro gg cap w4 hown hgrow hat hlt4; obtain ⟨q1, qf⟩ := PR2.out.grown ((Ext.refl _).alloc _) hgrow; have PR4 := Lib.hid (PR2.out.push ((Ext.refl _).alloc _) hgrow hown NP.out (A3.out.ext ((Ext.refl _).alloc _)) HPO.out); clear hown hgrow hat))
        go_roundw
        case rel => exact ⟨k + 1, _, _, by omega, by go_num, PR4⟩
        case measure => simp [intOf]; omega
      · have t0 : ((k : Int) == (i : Int)) = false := by simp; omega
        have A3 : Hid (At .u64 wr (some ⟨g, 0, none⟩) (regionL c ws' k)) := Lib.hid (by rw [EF.out k hlt hik]; exact HG.out.2.2.ext (hx.trans h1.out))
        have NP := Lib.hid HG.out.1
        have HPO := Lib.hid (show 0 < (regionL c ws' k).length by rw [EF.out k hlt hik, WL.out]; exact wp)
        have PR2 := PR
        go_wp2_with (at_builtin; refine wpList_append_lies _ rfl (.tmp 35) (.tmp 37) 34 rfl (z + 1 + 1 + 1) 52 i0 (.slice none 0 0) 1 24 Tryz.underlying34 hi0 hz0 hz1 hz2 rfl (by decide) sv k vs rfl (own_ext PR2.out.own ((Ext.refl _).alloc _)) ⟨wr.heap.size, 0, none⟩ 1 1 [.slice (some ⟨g, 0, none⟩) (wordsN c k) rc] rfl rfl (newsb _ _ (by simp)) (one1 rfl) (by decide) (by unfold maxLen; omega) (by omega) (by simp; omega) (wr.heap.size + 1) (by simp) ?_; intro gg cap w4 hown hgrow hat hlt4; obtain ⟨q1, qf⟩ := PR2.out.grown ((Ext.refl _).alloc _) hgrow; have PR4 := Lib.hid (PR2.out.push ((Ext.refl _).alloc _) hgrow hown NP.out (A3.out.ext ((Ext.refl _).alloc _)) HPO.out); clear hown hgrow hat)
        go_roundw
        case rel => exact ⟨k + 1, _, _, by omega, by go_num, PR4⟩
        case measure => simp [intOf]; omega
    · obtain rfl : k = c.ts.length := by omega
      obtain ⟨d2, cap2, rfl, hd, zd⟩ := PR.out.doc H.out.ok EL.out (fun k q => by have := HP.out k q; have := hx.size; simp; omega)
      have DD := Lib.hid hd
      have p1 := PR.out.c0
      have X := Lib.hid PR.out.ext
      obtain ⟨q0, qf⟩ := box_up (box_new (w.alloc (.cells #[.slice (some ⟨d, 0, none⟩) c.ts.length cap] 36)) (.slice none 0 0) 36 (b := z + 1) (by simp [hz])) X.out
      clear PR h1 hd
      go_wp2_with fail
      have q1 := World.cell?_setCell_same wr ⟨z + 1, 0, none⟩ (.slice (some ⟨d2, 0, none⟩) c.ts.length cap2) q0
      refine bodyPost_ret (v := .agg #[.slice (some ⟨d2, 0, none⟩) c.ts.length cap2]) (by simp [results, Tryz.results59, go_sem, q1]) rfl ⟨d2, cap2, rfl, ?_, by omega, ?_⟩
      · exact DD.out.off (by omega) q0 (by intro x e; cases e) _
      · exact (hx.trans (((Ext.refl _).alloc _).trans X.out)).setCell (p := ⟨z + 1, 0, none⟩) (by show w.heap.size ≤ z + 1; omega) _

end Go.Proofs.YtnbngcagnchkdaaGreatDoor

/-! commonageref07: Store, Zero, All. -/
namespace Go.Proofs.YtnbngcagnchkdaaGreatDoor
open Go.RowKit

set_option maxHeartbeats 4000000 in
theorem ref07_Store {P : Nat → Prop} {d cap : Nat} {t a x k : Int} {c : Conf} {ws ws' : List Int} {w : World} (h : DocAt P w d c ws) (hP : ∀ k, P k → k < w.heap.size) (hr : storeR c ws t a x = (ws', k)) :
    Calls Tryz.prog 21 #[.agg #[.slice (some ⟨d, 0, none⟩) c.ts.length cap], .int .i64 t, .int .i64 a, .int .u64 x] w (DocMade2 P c ws' k w) := by
  obtain ⟨z, hz⟩ : ∃ z, w.heap.size = z := ⟨_, rfl⟩
  have hx := ((Ext.refl w).alloc (.cells #[.slice (some ⟨d, 0, none⟩) c.ts.length cap] 36)).alloc (.cells #[.slice none 0 0] 36)
  have BX := Lib.hid (box_up (box_new w (.slice (some ⟨d, 0, none⟩) c.ts.length cap) 36 hz) ((Ext.refl _).alloc (.cells #[.slice none 0 0] 36)))
  have BR := Lib.hid (box_new (w.alloc (.cells #[.slice (some ⟨d, 0, none⟩) c.ts.length cap] 36)) (.slice none 0 0) 36 (b := z + 1) (by simp [hz]))
  obtain ⟨q, hq⟩ : ∃ q, partErr c t a 1 = q := ⟨_, rfl⟩
  have C1 := Lib.hid (fun W (hw : Ext w W) => ref07_In (cap := cap) q (h.ext hw) hq)
  have H := Lib.hid h; have HP := Lib.hid hP
  have dl := h.lt
  unfold storeR at hr
  by_cases h0 : q = 0
  · subst h0
    rcases partErr_one hq with ⟨e, _⟩ | ⟨e, _⟩ | ⟨_, i, j, rfl, rfl, hi, hj⟩
    · cases e
    · cases e
    rw [hq, if_pos rfl] at hr
    cases hr
    simp only [Int.toNat_natCast]
    have HI := Lib.hid hi; have HJ := Lib.hid hj
    clear h hq hP hi hj
    go_enter Tryz.func21, Tryz.ntmps21
    go_wp2_with fail
    refine (C1.out _ hx).mono ?_
    rintro e w1 ⟨rfl, x1⟩
    have z0 := (box_up BX.out x1).1
    have zr := Lib.hid (box_up BR.out x1)
    go_wp2_with fail
    refine (ref07_with (P := P) (H.out.ext (hx.trans x1)) (fun k q => Nat.lt_of_lt_of_le (HP.out k q) (hx.trans x1).size) HI.out HJ.out).mono ?_
    rintro e w2 ⟨d2, cap2, rfl, hd2, lo2, x2⟩
    have DD := Lib.hid hd2
    obtain ⟨q0, qf⟩ := box_up zr.out x2
    have l1 := (hx.trans x1).size
    have bz := cell_lt q0
    have bz1 := cell_lt zr.out.1
    clear hd2
    go_wp2_with fail
    have q1 := World.cell?_setCell_same w2 ⟨z + 1, 0, none⟩ (.slice (some ⟨d2, 0, none⟩) c.ts.length cap2) q0
    refine bodyPost_ret (v := .tuple #[.agg #[.slice (some ⟨d2, 0, none⟩) c.ts.length cap2], .int .i64 0]) (by simp [results, Tryz.results21, go_sem, q1]) rfl ⟨d2, cap2, rfl, ?_, ?_⟩
    · exact DD.out.off (by omega) q0 (by intro x e; cases e) _
    · exact ((hx.trans x1).trans x2).setCell (p := ⟨z + 1, 0, none⟩) (by show w.heap.size ≤ z + 1; omega) _
  · rw [hq, if_neg h0] at hr
    cases hr
    have t0 : (k != 0) = true := by simpa using h0
    clear h hq hP h0
    go_enter Tryz.func21, Tryz.ntmps21
    go_wp2_with fail
    refine (C1.out _ hx).mono ?_
    rintro e w1 ⟨rfl, x1⟩
    have z0 := (box_up BX.out x1).1
    obtain ⟨q0, qf⟩ := box_up BR.out x1
    go_wp2_with fail
    have q1 := World.cell?_setCell_same w1 ⟨z + 1, 0, none⟩ (.slice (some ⟨d, 0, none⟩) c.ts.length cap) q0
    refine bodyPost_ret (v := .tuple #[.agg #[.slice (some ⟨d, 0, none⟩) c.ts.length cap], .int .i64 k]) (by simp [results, Tryz.results21, go_sem, q1]) rfl ⟨d, cap, rfl, ?_, ?_⟩
    · exact (H.out.ext (hx.trans x1)).off (by omega) q0 (by intro x e; cases e) _
    · exact (hx.trans x1).setCell (p := ⟨z + 1, 0, none⟩) (by show w.heap.size ≤ z + 1; omega) _

theorem ref07_withI {P : Nat → Prop} {d cap i jj : Nat} {a x : Int} {c : Conf} {ws : List Int} {w : World} (ha : a = (jj : Nat)) (h : DocAt P w d c ws) (hP : ∀ k, P k → k < w.heap.size) (hi : i < c.ts.length) (hj : jj < wordsN c i) :
    Calls Tryz.prog 59 #[.agg #[.slice (some ⟨d, 0, none⟩) c.ts.length cap], .int .i64 i, .int .i64 a, .int .u64 x] w (DocMade P c (ws.set (baseN c i + jj) x) w) := by
  subst ha; exact ref07_with h hP hi hj

/-- What Zero's loop keeps. -/
structure ZeroR (P : Nat → Prop) (w : World) (c : Conf) (ws : List Int) (A z k d cap : Nat) (wr : World) : Prop where
  b0 : wr.cell? ⟨z, 0, none⟩ = some (.slice (some ⟨d, 0, none⟩) c.ts.length cap)
  b1 : wr.frozen? ⟨z, 0, none⟩ = false
  r0 : wr.cell? ⟨z + 1, 0, none⟩ = some (.slice none 0 0)
  r1 : wr.frozen? ⟨z + 1, 0, none⟩ = false
  doc : DocAt P wr d c (zeroL ws A k)
  ext : Ext w wr
  ne : z + 1 ≠ d

set_option maxHeartbeats 8000000 in
theorem ref07_Zero {P : Nat → Prop} {d cap : Nat} {t a n k : Int} {c : Conf} {ws ws' : List Int} {w : World} (h : DocAt P w d c ws) (hP : ∀ k, P k → k < w.heap.size) (hr : zeroR c ws t a n = (ws', k)) (ha : is64 a) (hn : is64 n) :
    Calls Tryz.prog 78 #[.agg #[.slice (some ⟨d, 0, none⟩) c.ts.length cap], .int .i64 t, .int .i64 a, .int .i64 n] w (DocMade2 P c ws' k w) := by
  obtain ⟨z, hz⟩ : ∃ z, w.heap.size = z := ⟨_, rfl⟩
  have hx := ((Ext.refl w).alloc (.cells #[.slice (some ⟨d, 0, none⟩) c.ts.length cap] 36)).alloc (.cells #[.slice none 0 0] 36)
  obtain ⟨bx, bf⟩ := box_up (box_new w (.slice (some ⟨d, 0, none⟩) c.ts.length cap) 36 hz) ((Ext.refl _).alloc (.cells #[.slice none 0 0] 36))
  obtain ⟨rx, rf⟩ := box_new (w.alloc (.cells #[.slice (some ⟨d, 0, none⟩) c.ts.length cap] 36)) (.slice none 0 0) 36 (b := z + 1) (by simp [hz])
  have t8 := h.ok.head.2.2.2.1
  have tl := h.ok.total_le
  have dl := h.lt
  have RX := Lib.hid rx; have RF := Lib.hid rf; have BX := Lib.hid bx; have BF := Lib.hid bf
  have H := Lib.hid h; have HP := Lib.hid hP
  have D0 := Lib.hid (h.ext hx)
  have FIN : Hid (DocMade2 P c ws k w (.returned (.tuple #[.agg #[.slice (some ⟨d, 0, none⟩) c.ts.length cap], .int .i64 k])) ((w.alloc (.cells #[.slice (some ⟨d, 0, none⟩) c.ts.length cap] 36)).alloc (.cells #[.slice (some ⟨d, 0, none⟩) c.ts.length cap] 36))) :=
    Lib.hid ⟨d, cap, rfl, h.ext (((Ext.refl _).alloc _).alloc _), ((Ext.refl _).alloc _).alloc _⟩
  clear rx rf bx bf
  unfold zeroR at hr
  by_cases hp : partErr c t a n = 0
  · rw [if_pos hp] at hr
    obtain ⟨i, j, m, rfl, rfl, rfl, hi, hj⟩ := partErr_ok hp
    simp only [Int.toNat_natCast] at hr
    cases hr
    have win := h.ok.region_in hi
    have hl := h.len
    obtain ⟨g, rc, h1, _⟩ := (h.ext hx).words1 hi
    have t0 : decide ((i : Int) < 0) = false := by simp
    have t2 : decide (c.ts.length ≤ i) = false := by simp; omega
    have t3 : decide ((j : Int) < 0) = false := by simp
    have t4 : decide ((m : Int) < 0) = false := by simp
    have t5 : decide (wordsN c i < j) = false := by simp; omega
    have t6 : decide ((wordsN c i : Int) - (j : Int) < (m : Int)) = false := by simp; omega
    have w1 : IntKind.i64.wrap ((wordsN c i : Int) - (j : Int)) = (wordsN c i : Int) - (j : Int) := IntWalk.i64_in _ (by omega)
    have HI := Lib.hid hi
    have bx := BX.out
    clear h hp hP FIN
    go_enter Tryz.func78, Tryz.ntmps78
    go_wp2_with fail
    clear h1 t0 t2 t3 t4 t5 t6 w1 bx
    have R0 : Hid (ZeroR P w c ws (baseN c i + j) z 0 d cap ((w.alloc (.cells #[.slice (some ⟨d, 0, none⟩) c.ts.length cap] 36)).alloc (.cells #[.slice none 0 0] 36))) :=
      Lib.hid ⟨BX.out, BF.out, RX.out, RF.out, by rw [zeroL_none]; exact D0.out, hx, by omega⟩
    go_loopw [10] (fun kv wr => ∃ k d cap : Nat, k ≤ m ∧ kv = .int .i64 k ∧ Hid (ZeroR P w c ws (baseN c i + j) z k d cap wr)) (fun kv _ => m - (intOf kv).toNat)
    case atStart => exact ⟨0, d, cap, Nat.zero_le _, rfl, R0⟩
    case round =>
      clear R0 D0 BX BF RX RF
      obtain ⟨k, dk, ck, hk, rfl, ZR⟩ := hrel
      have b0 := ZR.out.b0
      by_cases hlt : k < m
      · have ww : IntKind.i64.wrap ((j : Int) + (k : Int)) = (j : Int) + (k : Int) := IntWalk.i64_in _ (by omega)
        have ZS := Lib.hid (zeroL_succ (ws := ws) (a := baseN c i + j) (n := k) (by omega))
        have CW := Lib.hid (ref07_withI (P := P) (cap := ck) (a := (j : Int) + (k : Int)) (jj := j + k) (x := 0) (by omega) ZR.out.doc (fun k q => Nat.lt_of_lt_of_le (HP.out k q) ZR.out.ext.size) HI.out (by omega))
        go_wp2_with fail
        refine CW.out.mono ?_
        rintro e w2 ⟨d2, c2, rfl, hd2, lo2, x2⟩
        have bl : z < wr.heap.size := cell_lt b0
        have rl : z + 1 < wr.heap.size := cell_lt ZR.out.r0
        have z1 := x2.cell b0
        have z2 := x2.frozenAt b0 ZR.out.b1
        have r0 := x2.cell ZR.out.r0
        have ZN : Hid (ZeroR P w c ws (baseN c i + j) z (k + 1) d2 c2 (w2.setCell ⟨z, 0, none⟩ (.slice (some ⟨d2, 0, none⟩) c.ts.length c2))) := Lib.hid
          ⟨World.cell?_setCell_same _ _ _ z1, by simpa using z2, by rw [cell_far _ _ _ _ (show z ≠ z + 1 by omega)]; exact r0, by simpa using x2.frozenAt ZR.out.r0 ZR.out.r1,
            by rw [ZS.out, Nat.add_assoc]; exact hd2.off (by omega) z1 (by intro x e; cases e) _, (ZR.out.ext.trans x2).setCell (p := ⟨z, 0, none⟩) (by show w.heap.size ≤ z; omega) _, by omega⟩
        clear hd2 CW ZS ww r0
        go_wp2_with fail
        go_roundw
        case rel => exact ⟨k + 1, d2, c2, by omega, by go_num, ZN⟩
        case measure => simp [intOf]; omega
      · obtain rfl : k = m := by omega
        have r0 := ZR.out.r0
        have r1 := ZR.out.r1
        have q1 := World.cell?_setCell_same wr ⟨z + 1, 0, none⟩ (.slice (some ⟨dk, 0, none⟩) c.ts.length ck) r0
        go_wp2_with fail
        refine bodyPost_ret (v := .tuple #[.agg #[.slice (some ⟨dk, 0, none⟩) c.ts.length ck], .int .i64 0]) (by simp [results, Tryz.results78, go_sem, q1]) rfl ⟨dk, ck, rfl, ?_, ?_⟩
        · exact ZR.out.doc.off ZR.out.ne r0 (by intro x e; cases e) _
        · exact ZR.out.ext.setCell (p := ⟨z + 1, 0, none⟩) (by show w.heap.size ≤ z + 1; omega) _
  · rw [if_neg hp] at hr
    obtain ⟨rfl, hk⟩ : ws = ws' ∧ partErr c t a n = k := by injection hr with e1 e2; exact ⟨e1, e2⟩
    rw [hk] at hp
    have bx := BX.out
    have rf := RF.out
    have rx := RX.out
    clear hP ha hn hr D0 BX BF RX RF HP H
    unfold partErr at hk
    by_cases ht : t < 0 ∨ (c.ts.length : Int) ≤ t
    · rw [if_pos ht] at hk
      subst hk
      clear h hp hz
      by_cases h0 : t < 0
      · have t0 : decide (t < 0) = true := by simpa using h0
        clear ht
        go_enter Tryz.func78, Tryz.ntmps78
        go_wp2_with fail
        exact bodyPost_ret (v := .tuple #[.agg #[.slice (some ⟨d, 0, none⟩) c.ts.length cap], .int .i64 2]) (by simp [results, Tryz.results78, go_sem]) rfl FIN.out
      · have t0 : decide (t < 0) = false := by simpa using h0
        have t1 : decide ((c.ts.length : Int) ≤ t) = true := by simp; omega
        clear ht
        go_enter Tryz.func78, Tryz.ntmps78
        go_wp2_with fail
        exact bodyPost_ret (v := .tuple #[.agg #[.slice (some ⟨d, 0, none⟩) c.ts.length cap], .int .i64 2]) (by simp [results, Tryz.results78, go_sem]) rfl FIN.out
    · rw [if_neg ht] at hk
      obtain ⟨i, rfl⟩ : ∃ i : Nat, t = i := ⟨t.toNat, by omega⟩
      rw [Int.toNat_natCast] at hk
      have hi : i < c.ts.length := by omega
      obtain ⟨g, rc, h1, _⟩ := (h.ext hx).words1 hi
      have win := h.ok.region_in hi
      clear h ht
      generalize wordsN c i = m at *
      have hb : a < 0 ∨ n < 0 ∨ (m : Int) < a ∨ (m : Int) - a < n := by
        by_cases c0 : a < 0 ∨ n < 0 ∨ (m : Int) < a ∨ (m : Int) - a < n
        · exact c0
        · rw [if_neg c0] at hk; exact absurd hk.symm hp
      rw [if_pos hb] at hk
      subst hk
      have t0 : decide ((i : Int) < 0) = false := by simp
      have t2 : decide (c.ts.length ≤ i) = false := by simp; omega
      clear hp
      by_cases c0 : a < 0
      · have t3 : decide (a < 0) = true := by simpa using c0
        clear hb c0
        go_enter Tryz.func78, Tryz.ntmps78
        go_wp2_with fail
        exact bodyPost_ret (v := .tuple #[.agg #[.slice (some ⟨d, 0, none⟩) c.ts.length cap], .int .i64 4]) (by simp [results, Tryz.results78, go_sem, ← hz]) rfl FIN.out
      · have t3 : decide (a < 0) = false := by simpa using c0
        by_cases c1 : n < 0
        · have t4 : decide (n < 0) = true := by simpa using c1
          clear hb c0 c1
          go_enter Tryz.func78, Tryz.ntmps78
          go_wp2_with fail
          exact bodyPost_ret (v := .tuple #[.agg #[.slice (some ⟨d, 0, none⟩) c.ts.length cap], .int .i64 4]) (by simp [results, Tryz.results78, go_sem, ← hz]) rfl FIN.out
        · have t4 : decide (n < 0) = false := by simpa using c1
          by_cases c2 : (m : Int) < a
          · have t5 : decide ((m : Int) < a) = true := by simpa using c2
            clear hb c0 c1 c2
            go_enter Tryz.func78, Tryz.ntmps78
            go_wp2_with fail
            exact bodyPost_ret (v := .tuple #[.agg #[.slice (some ⟨d, 0, none⟩) c.ts.length cap], .int .i64 4]) (by simp [results, Tryz.results78, go_sem, ← hz]) rfl FIN.out
          · have t5 : decide ((m : Int) < a) = false := by simpa using c2
            have t6 : decide ((m : Int) - a < n) = true := by simp; omega
            have ww : IntKind.i64.wrap ((m : Int) - a) = (m : Int) - a := IntWalk.i64_in _ (by omega)
            clear hb c0 c1 c2
            go_enter Tryz.func78, Tryz.ntmps78
            go_wp2_with fail
            exact bodyPost_ret (v := .tuple #[.agg #[.slice (some ⟨d, 0, none⟩) c.ts.length cap], .int .i64 4]) (by simp [results, Tryz.results78, go_sem, ← hz]) rfl FIN.out

end Go.Proofs.YtnbngcagnchkdaaGreatDoor

/-! commonageref08: May, Put, Get, Need, Field: each hands back what head's own plain function computes. -/
namespace Go.Proofs.YtnbngcagnchkdaaGreatDoor
open Go.RowKit

set_option maxHeartbeats 4000000 in
theorem ref08_May (h : Hd) (b : Bool) {w : World} (hb : decide (hdok h) = b) :
    Calls Tryz.prog 110 #[.agg #[.int .i64 h.c, .int .i64 h.r, .int .i64 h.w]] w fun e w' => e = .returned (.bool b) ∧ Ext w w' := by
  have hx := (Ext.refl w).alloc (.cells #[.int .i64 h.c, .int .i64 h.r, .int .i64 h.w] 29)
  obtain ⟨c, r, q⟩ := h
  simp only at hx ⊢
  have k := hd_cases c r q
  rcases k with ⟨k, k1, k2, k3, k4, k5, k6⟩ | ⟨k, h | ⟨h1, h2⟩ | ⟨h1, h2, h3⟩ | ⟨h1, h2, h3, h4⟩ | ⟨h1, h2, h3, h4, h5⟩ | ⟨h1, h2, h3, h4, h5, h6⟩⟩
  · have HB := Lib.hid (show true = b by rw [← hb, decide_eq_true k])
    clear hb k
    go_enter Tryz.func110, Tryz.ntmps110
    go_wp2_with fail
    all_goals go_ret
    all_goals first | exact ⟨ret_bool HB.out, hx⟩ | exact ⟨ret_bool ((decide_eq_false (by omega)).trans HB.out), hx⟩ | exact ⟨ret_bool ((decide_eq_true (by omega)).trans HB.out), hx⟩
  all_goals
    have HB := Lib.hid (show false = b by rw [← hb, decide_eq_false k])
    clear hb k
    go_enter Tryz.func110, Tryz.ntmps110
    go_wp2_with fail
    all_goals go_ret
    all_goals first | exact ⟨ret_bool HB.out, hx⟩ | exact ⟨ret_bool ((decide_eq_false (by omega)).trans HB.out), hx⟩ | exact ⟨ret_bool ((decide_eq_true (by omega)).trans HB.out), hx⟩

set_option maxHeartbeats 4000000 in
theorem ref08_Put (h : Hd) (p q : Int) {w : World} (hpq : hdput h = (p, q)) :
    Calls Tryz.prog 80 #[.agg #[.int .i64 h.c, .int .i64 h.r, .int .i64 h.w]] w fun e w' => e = .returned (.tuple #[.int .u64 p, .int .i64 q]) ∧ Ext w w' := by
  have hx := (Ext.refl w).alloc (.cells #[.int .i64 h.c, .int .i64 h.r, .int .i64 h.w] 29)
  have h1 := Ext.refl (w.alloc (.cells #[.int .i64 h.c, .int .i64 h.r, .int .i64 h.w] 29))
  by_cases hk : hdok h
  · have E := Lib.hid (show (hdword h, 0) = (p, q) by rw [← hpq, hdput_yes hk])
    have HB := Lib.hid (show decide (hdok h) = true from decide_eq_true hk)
    obtain ⟨⟨k1, k2⟩, k3, k4, k5, k6⟩ := hk
    have kr : h.r ≤ 63 := k5
    have kw : h.w ≤ 63 := by omega
    clear hpq
    go_enter Tryz.func80, Tryz.ntmps80
    go_wp2_with fail
    refine (ref08_May h true HB.out).mono ?_
    rintro e w1 ⟨rfl, h2⟩
    replace h1 := h1.trans h2
    obtain ⟨b0, b1, b2⟩ := hbox h1
    go_wp2_with fail
    go_ret2
    cases E.out
    refine ⟨ret_int2 ?_ rfl, hx.trans h1⟩
    unfold hdword
    simp
    omega
  · obtain ⟨rfl, rfl⟩ : 0 = p ∧ 2 = q := by rw [hdput_no hk] at hpq; simpa using hpq
    have HB := Lib.hid (show decide (hdok h) = false from decide_eq_false hk)
    clear hpq hk
    go_enter Tryz.func80, Tryz.ntmps80
    go_wp2_with fail
    refine (ref08_May h false HB.out).mono ?_
    rintro e w1 ⟨rfl, h2⟩
    go_wp2_with fail
    go_ret2
    exact ⟨rfl, hx.trans h2⟩

/-- What is read of a word, put again, is the word, just where head.Get takes it. -/
theorem hdraw_again {u : Int} (k : hdok (hdraw u)) : hdword (hdraw u) = u ↔ hdis u := by
  constructor
  · intro e
    refine ⟨?_, ?_, k⟩
    · rw [← e]; obtain ⟨⟨h1, h2⟩, h3, h4, h5, h6⟩ := k; generalize hdraw u = h at *; unfold hdword; omega
    · rw [← e]; obtain ⟨⟨h1, h2⟩, h3, h4, h5, h6⟩ := k; generalize hdraw u = h at *; unfold hdword; omega
  · exact hdis_word

set_option maxHeartbeats 4000000 in
theorem ref08_Get (u : Int) (h : Hd) (q : Int) {w : World} (hpq : hdget u = (h, q)) (h0 : 0 ≤ u) (h1 : u < 18446744073709551616) :
    Calls Tryz.prog 92 #[.int .u64 u] w fun e w' => e = .returned (.tuple #[.agg #[.int .i64 h.c, .int .i64 h.r, .int .i64 h.w], .int .i64 q]) ∧ Ext w w' := by
  have u1 : u ≤ 18446744073709551615 := by omega
  have hr := fun k => hdraw_again (u := u) k
  clear h1
  obtain ⟨c, r, x, hx⟩ : ∃ c r x, hdraw u = ⟨c, r, x⟩ := ⟨_, _, _, rfl⟩
  have ec : u / 281474976710656 % 256 = c := congrArg Hd.c hx
  have er : u / 4294967296 % 65536 = r := congrArg Hd.r hx
  have ex : u / 65536 % 65536 = x := congrArg Hd.w hx
  obtain ⟨p, s, hps⟩ : ∃ p s, hdput ⟨c, r, x⟩ = (p, s) := ⟨_, _, rfl⟩
  have P := Lib.hid hps
  rw [hx] at hr
  by_cases hk : hdis u
  · rw [hdget_yes hk, hx] at hpq
    cases hpq
    have k2 := hk.2.2
    rw [hx] at k2
    rw [hdput_yes k2] at hps
    obtain ⟨rfl, rfl⟩ : u = p ∧ 0 = s := by rw [(hr k2).2 hk] at hps; simpa using hps
    clear hps hr hk k2 hx
    dsimp only
    have P' := Lib.hid (show hdput ⟨c, r, x⟩ = (u, 0) from P.out)
    have h1 := ((Ext.refl w).alloc (.cells #[.int .i64 0, .int .i64 0, .int .i64 0] 29)).alloc (.cells #[.int .i64 c, .int .i64 r, .int .i64 x] 29)
    have h5 := (Ext.refl (w.alloc (.cells #[.int .i64 0, .int .i64 0, .int .i64 0] 29))).alloc (.cells #[.int .i64 c, .int .i64 r, .int .i64 x] 29)
    have h3 := Ext.refl ((w.alloc (.cells #[.int .i64 0, .int .i64 0, .int .i64 0] 29)).alloc (.cells #[.int .i64 c, .int .i64 r, .int .i64 x] 29))
    clear P
    go_enter Tryz.func92, Tryz.ntmps92
    go_wp2_with fail
    refine (ref08_Put ⟨c, r, x⟩ u 0 P'.out).mono ?_
    rintro e w1 ⟨rfl, h2⟩
    replace h1 := (h1.trans (by repeat (first | exact Ext.refl _ | refine Ext.alloc ?_ _ | refine Ext.drewN ?_ _))).trans h2
    try replace h3 := (h3.trans (by repeat (first | exact Ext.refl _ | refine Ext.alloc ?_ _ | refine Ext.drewN ?_ _))).trans h2
    try replace h5 := (h5.trans (by repeat (first | exact Ext.refl _ | refine Ext.alloc ?_ _ | refine Ext.drewN ?_ _))).trans h2
    clear h2
    obtain ⟨d0, d1, d2⟩ := hbox h3
    obtain ⟨p0, p1, p2⟩ := hbox h5
    simp only [World.size_alloc] at d0 d1 d2
    have q0 := h5.frozenAt (cell_newN w #[.int .i64 0, .int .i64 0, .int .i64 0] 29 0) (by simp)
    have q1 := h5.frozenAt (cell_newN w #[.int .i64 0, .int .i64 0, .int .i64 0] 29 1) (by simp)
    have q2 := h5.frozenAt (cell_newN w #[.int .i64 0, .int .i64 0, .int .i64 0] 29 2) (by simp)
    have hlt := cell_lt p0
    go_wp2_with fail
    refine bodyPost_ret (v := .tuple #[.agg #[.int .i64 c, .int .i64 r, .int .i64 x], .int .i64 0]) (by simp [results, Tryz.results92, go_sem, p0, p1, p2, World.cell?_setCell_same, World.cell?_setCell_other]) rfl ⟨rfl, ?_⟩
    repeat (first | exact h1 | refine Ext.setCell ?_ (Nat.le_refl _) _)
  · rw [hdget_no hk] at hpq
    cases hpq
    unfold hdnil
    dsimp only
    have hn : (s != 0) = true ∨ ((s != 0) = false ∧ (p != u) = true) := by
      by_cases k : hdok ⟨c, r, x⟩
      · right
        rw [hdput_yes k] at hps
        obtain ⟨rfl, rfl⟩ : hdword ⟨c, r, x⟩ = p ∧ 0 = s := by simpa using hps
        refine ⟨rfl, ?_⟩
        simp only [bne_iff_ne]
        exact fun e => hk ((hr k).1 e)
      · left
        rw [hdput_no k] at hps
        obtain ⟨rfl, rfl⟩ : 0 = p ∧ 2 = s := by simpa using hps
        rfl
    have h1 := ((Ext.refl w).alloc (.cells #[.int .i64 0, .int .i64 0, .int .i64 0] 29)).alloc (.cells #[.int .i64 c, .int .i64 r, .int .i64 x] 29)
    have h5 := (Ext.refl (w.alloc (.cells #[.int .i64 0, .int .i64 0, .int .i64 0] 29))).alloc (.cells #[.int .i64 c, .int .i64 r, .int .i64 x] 29)
    clear hps hr hx
    rcases hn with hn | ⟨hn, hn'⟩
    all_goals
      go_enter Tryz.func92, Tryz.ntmps92
      go_wp2_with fail
      refine (ref08_Put ⟨c, r, x⟩ p s P.out).mono ?_
      rintro e w1 ⟨rfl, h2⟩
      replace h1 := h1.trans h2
      replace h5 := h5.trans h2
      clear h2
      obtain ⟨p0, p1, p2⟩ := hbox h5
      have q0 := h5.frozenAt (cell_newN w #[.int .i64 0, .int .i64 0, .int .i64 0] 29 0) (by simp)
      have q1 := h5.frozenAt (cell_newN w #[.int .i64 0, .int .i64 0, .int .i64 0] 29 1) (by simp)
      have q2 := h5.frozenAt (cell_newN w #[.int .i64 0, .int .i64 0, .int .i64 0] 29 2) (by simp)
      have hlt := cell_lt p0
      go_wp2_with fail
      refine bodyPost_ret (v := .tuple #[.agg #[.int .i64 0, .int .i64 0, .int .i64 0], .int .i64 5]) (by simp [results, Tryz.results92, go_sem, p0, p1, p2, World.cell?_setCell_same, World.cell?_setCell_other]) rfl ⟨rfl, ?_⟩
      repeat (first | exact h1 | refine Ext.setCell ?_ (Nat.le_refl _) _)

set_option maxHeartbeats 4000000 in
theorem ref08_Need (h : Hd) (p q : Int) {w : World} (hpq : hdneed h = (p, q)) :
    Calls Tryz.prog 109 #[.agg #[.int .i64 h.c, .int .i64 h.r, .int .i64 h.w]] w fun e w' => e = .returned (.tuple #[.int .i64 p, .int .i64 q]) ∧ Ext w w' := by
  have hx := (Ext.refl w).alloc (.cells #[.int .i64 h.c, .int .i64 h.r, .int .i64 h.w] 29)
  have h1 := Ext.refl (w.alloc (.cells #[.int .i64 h.c, .int .i64 h.r, .int .i64 h.w] 29))
  by_cases hk : hdok h
  · have E := Lib.hid (show (h.r + h.w + 1, 0) = (p, q) by rw [← hpq]; unfold hdneed; rw [if_pos hk])
    have HB := Lib.hid (show decide (hdok h) = true from decide_eq_true hk)
    obtain ⟨⟨k1, k2⟩, k3, k4, k5, k6⟩ := hk
    clear hpq
    go_enter Tryz.func109, Tryz.ntmps109
    go_wp2_with fail
    refine (ref08_May h true HB.out).mono ?_
    rintro e w1 ⟨rfl, h2⟩
    replace h1 := h1.trans h2
    obtain ⟨b0, b1, b2⟩ := hbox h1
    go_wp2_with fail
    go_ret2
    cases E.out
    exact ⟨ret_int2 (by omega) rfl, hx.trans h1⟩
  · obtain ⟨rfl, rfl⟩ : 0 = p ∧ 2 = q := by unfold hdneed at hpq; rw [if_neg hk] at hpq; simpa using hpq
    have HB := Lib.hid (show decide (hdok h) = false from decide_eq_false hk)
    clear hpq hk
    go_enter Tryz.func109, Tryz.ntmps109
    go_wp2_with fail
    refine (ref08_May h false HB.out).mono ?_
    rintro e w1 ⟨rfl, h2⟩
    go_wp2_with fail
    go_ret2
    exact ⟨rfl, hx.trans h2⟩

set_option maxHeartbeats 4000000 in
theorem ref08_Field (h : Hd) (i : Int) (p : Bool) (q : Int) {w : World} (hpq : hdfield h i = (p, q)) :
    Calls Tryz.prog 107 #[.agg #[.int .i64 h.c, .int .i64 h.r, .int .i64 h.w], .int .i64 i] w fun e w' => e = .returned (.tuple #[.bool p, .int .i64 q]) ∧ Ext w w' := by
  have hx := (Ext.refl w).alloc (.cells #[.int .i64 h.c, .int .i64 h.r, .int .i64 h.w] 29)
  have h1 := Ext.refl (w.alloc (.cells #[.int .i64 h.c, .int .i64 h.r, .int .i64 h.w] 29))
  by_cases hk : hdok h
  · have HB := Lib.hid (show decide (hdok h) = true from decide_eq_true hk)
    unfold hdfield at hpq
    rw [if_pos hk] at hpq
    obtain ⟨⟨k1, k2⟩, k3, k4, k5, k6⟩ := hk
    by_cases hi : i < 0
    · obtain ⟨rfl, rfl⟩ : false = p ∧ 110 = q := by rw [if_pos (.inl hi)] at hpq; simpa using hpq
      clear hpq
      go_enter Tryz.func107, Tryz.ntmps107
      go_wp2_with fail
      refine (ref08_May h true HB.out).mono ?_
      rintro e w1 ⟨rfl, h2⟩
      replace h1 := h1.trans h2
      obtain ⟨b0, b1, b2⟩ := hbox h1
      go_wp2_with fail
      go_ret2
      exact ⟨rfl, hx.trans h1⟩
    · have hi0 : 0 ≤ i := by omega
      by_cases hj : h.r + h.w ≤ i
      · obtain ⟨rfl, rfl⟩ : false = p ∧ 110 = q := by rw [if_pos (.inr hj)] at hpq; simpa using hpq
        clear hpq
        go_enter Tryz.func107, Tryz.ntmps107
        go_wp2_with fail
        refine (ref08_May h true HB.out).mono ?_
        rintro e w1 ⟨rfl, h2⟩
        replace h1 := h1.trans h2
        obtain ⟨b0, b1, b2⟩ := hbox h1
        go_wp2_with fail
        go_ret2
        exact ⟨rfl, hx.trans h1⟩
      · have E := Lib.hid (show (decide (i < h.r), (0 : Int)) = (p, q) by rw [← hpq, if_neg (by omega)])
        clear hpq
        replace hj : i < h.r + h.w := by omega
        go_enter Tryz.func107, Tryz.ntmps107
        go_wp2_with fail
        refine (ref08_May h true HB.out).mono ?_
        rintro e w1 ⟨rfl, h2⟩
        replace h1 := h1.trans h2
        obtain ⟨b0, b1, b2⟩ := hbox h1
        go_wp2_with fail
        go_ret2
        cases E.out
        exact ⟨rfl, hx.trans h1⟩
  · obtain ⟨rfl, rfl⟩ : false = p ∧ 2 = q := by unfold hdfield at hpq; rw [if_neg hk] at hpq; simpa using hpq
    have HB := Lib.hid (show decide (hdok h) = false from decide_eq_false hk)
    clear hpq hk
    go_enter Tryz.func107, Tryz.ntmps107
    go_wp2_with fail
    refine (ref08_May h false HB.out).mono ?_
    rintro e w1 ⟨rfl, h2⟩
    go_wp2_with fail
    go_ret2
    exact ⟨rfl, hx.trans h2⟩

end Go.Proofs.YtnbngcagnchkdaaGreatDoor

/-! commonageref11: its body's shape; load, lies, Head, field, Ref, Word. (Printed by wip/gen11b.py.) -/
namespace Go.Proofs.YtnbngcagnchkdaaGreatDoor
open Go.RowKit
variable {P Q : Nat → Prop} {w w' W : World} {d lb fb mb lc fc mc cc cap : Nat} {ca : Option Addr} {c : Conf} {t : Nat} {ws ws' : List Int} {s i k u x : Int}

/-- The document's body: its memory and its plan; none of its blocks is one of P. -/
structure DBd (P : Nat → Prop) (w : World) (d lb fb mb : Nat) (ca : Option Addr) (c : Conf) (t : Nat) (ws : List Int) : Prop where
  doc : DocAt P w d c ws
  plan : DPlan w lb fb mb ca c t
  np : ¬ P lb ∧ ¬ P fb ∧ ¬ P mb
  nc : ∀ x o, ca = some ⟨x, o, none⟩ → ¬ P x
  ok : WOk ws
theorem DBd.ext (h : DBd P w d lb fb mb ca c t ws) (hx : Ext w w') : DBd P w' d lb fb mb ca c t ws := ⟨h.doc.ext hx, h.plan.ext hx, h.np, h.nc, h.ok⟩
theorem DBd.chg (h : DBd P w d lb fb mb ca c t ws) (hx : Chg Q w w') (hq : ∀ k, Q k → P k) : DBd P w' d lb fb mb ca c t ws :=
  ⟨h.doc.chg hx hq, h.plan.at hx (fun q => h.np.1 (hq _ q)) (fun q => h.np.2.1 (hq _ q)) (fun q => h.np.2.2 (hq _ q)) (fun x o e q => h.nc x o e (hq _ q)), h.np, h.nc, h.ok⟩
theorem DBd.swap (h : DBd P w d lb fb mb ca c t ws) (hq : ∀ k, k < w.heap.size → Q k → P k) : DBd Q w d lb fb mb ca c t ws := by
  have l := h.plan.lt
  exact ⟨h.doc.swap hq, h.plan, ⟨fun q => h.np.1 (hq _ l.1 q), fun q => h.np.2.1 (hq _ l.2.1 q), fun q => h.np.2.2 (hq _ l.2.2.1 q)⟩, fun x o e q => h.nc x o e (hq _ (l.2.2.2 x o e) q), h.ok⟩
theorem DBd.turn (h : DBd P w d lb fb mb ca c t ws) {d' : Nat} (hd : DocAt P w' d' c ws') (hx : Ext w w') (ho : WOk ws') : DBd P w' d' lb fb mb ca c t ws' := ⟨hd, h.plan.ext hx, h.np, h.nc, ho⟩
theorem DBd.ko (h : DBd P w d lb fb mb ca c t ws) : KOk c := h.plan.ok
theorem DBd.ti (h : DBd P w d lb fb mb ca c t ws) : t < c.ts.length := h.plan.ti
theorem DBd.len (h : DBd P w d lb fb mb ca c t ws) : ws.length = totalN c := h.doc.len
theorem bd1 (w : World) {z : Nat} (hz : w.heap.size = z) (d lb fb mb lc fc mc cc cap : Nat) (ca : Option Addr) (c : Conf) (t : Nat) :
    ∃ W, w.alloc (.cells #[.slice (some ⟨d, 0, none⟩) c.ts.length cap, .int .i64 t, .slice (some ⟨lb, 0, none⟩) (nS c t) lc, .slice (some ⟨fb, 0, none⟩) (nG c t) fc, .slice (some ⟨mb, 0, none⟩) (nG c t) mc, .int .i64 (wordsOf c t), .slice ca c.cl.length cc] 41) = W ∧ BoxG W z [.slice (some ⟨d, 0, none⟩) c.ts.length cap, .int .i64 t, .slice (some ⟨lb, 0, none⟩) (nS c t) lc, .slice (some ⟨fb, 0, none⟩) (nG c t) fc, .slice (some ⟨mb, 0, none⟩) (nG c t) mc, .int .i64 (wordsOf c t), .slice ca c.cl.length cc] ∧ Ext w W :=
  ⟨_, rfl, BoxG.new w _ _ hz, (Ext.refl w).alloc _⟩
/-- A slot's cells. -/
theorem DBd.slot (h : DBd P w d lb fb mb ca c t ws) {n : Nat} (hn : n < nS c t) : w.cell? ⟨lb, n * 4, none⟩ = some (.int .i64 (kOf c t (n : Int) : Int)) ∧ w.cell? ⟨lb, n * 4 + 1, none⟩ = some (.int .i64 (bSz c t (n : Int))) ∧ w.cell? ⟨lb, n * 4 + 2, none⟩ = some (.int .i64 (bAd c t (n : Int))) :=
  ⟨h.plan.l n hn 0 _ rfl, h.plan.l n hn 1 _ rfl, h.plan.l n hn 2 _ rfl⟩
theorem bIn_nat (h : bIn c t s) : ∃ n : Nat, s = n ∧ n < nS c t := ⟨s.toNat, by have := h.1; omega, by have := h.2; have := h.1; omega⟩
theorem bIn_of {n : Nat} (h : n < nS c t) : bIn c t (n : Int) := ⟨Int.natCast_nonneg _, by omega⟩

set_option maxHeartbeats 4000000 in
theorem ref11_load {n j : Nat} (u : Int) (h : DBd P w d lb fb mb ca c t ws) (hn : n < nS c t) (hj : (j : Int) < bSz c t (n : Int)) (hu : bwd c t ws (n : Int) j = u) :
    Calls Tryz.prog 77 #[.agg #[.slice (some ⟨d, 0, none⟩) c.ts.length cap, .int .i64 t, .slice (some ⟨lb, 0, none⟩) (nS c t) lc, .slice (some ⟨fb, 0, none⟩) (nG c t) fc, .slice (some ⟨mb, 0, none⟩) (nG c t) mc, .int .i64 (wordsOf c t), .slice ca c.cl.length cc], .int .i64 n, .int .i64 j] w fun e w' => e = .returned (.int .u64 u) ∧ Ext w w' := by
  obtain ⟨z, hz⟩ : ∃ z, w.heap.size = z := ⟨_, rfl⟩
  obtain ⟨W0, hW0, hB, x0⟩ := bd1 w hz d lb fb mb lc fc mc cc cap ca c t
  have B := Lib.hid hB; have X := Lib.hid x0
  have H := Lib.hid (h.ext x0)
  have sb := slotB h.ko h.ti (bIn_of hn)
  have a64 := sb.is64 h.ko h.ti
  have s64 := sb.s64
  have L := Lib.hid (sb.load (ws := ws) h.ti hj)
  rw [hu] at L
  obtain ⟨_, _, c2⟩ := (h.ext x0).slot hn
  obtain ⟨A, hA⟩ : ∃ A, bAd c t (n : Int) = A := ⟨_, rfl⟩
  rw [hA] at L c2 a64
  have wA : IntKind.i64.wrap (A + (j : Int)) = A + j := IntWalk.i64_in _ (by omega)
  have n0 : (0 : Int) ≤ (n : Int) := Int.natCast_nonneg _
  have n1 : (n : Int) < (nS c t : Int) := by omega
  have b0 := B.out.c 0 _ rfl; have b1 := B.out.c 1 _ rfl; have b2 := B.out.c 2 _ rfl
  have bz := B.out.lt
  clear h sb hj hA hu hB x0 a64 s64
  go_enter Tryz.func77, Tryz.ntmps77
  go_upto_region 1 with fail
  clear hW0 hz
  have d0 := fun d os => cell_regrown b0 d os; have d1 := fun d os => cell_regrown b1 d os; have d2 := fun d os => cell_regrown b2 d os; have d3 := fun d os => cell_regrown c2 d os
  clear b0 b1 b2 c2
  refine wp_region_quiet_below (by kernel_rfl) (by kernel_rfl) ?_
  repeat (any_goals (first | go_big_quiet_step ((go_at_call 108; exact reg (ref07_Load u 0 (H.out.doc.ext (reg_ext _ _ _)) L.out))) | quiet_step ((go_at_call 108; exact reg (ref07_Load u 0 (H.out.doc.ext (reg_ext _ _ _)) L.out)))))
  refine wpQuiet_nil ?_
  intro _ hw'
  obtain ⟨⟨dq, osq⟩, hw''⟩ := hw'
  obtain ⟨WQ, hWQ⟩ := grown_ex hw''
  have xq := hWQ.2
  obtain rfl := hWQ.1
  clear hw'' hWQ
  clear d0 d1 d2 d3
  go_wp2_with fail
  go_ret
  exact ⟨rfl, X.out.trans xq⟩

set_option maxHeartbeats 4000000 in
theorem ref11_lies {n : Nat} (r : Bool) (hd : Hd) (h : DBd P w d lb fb mb ca c t ws) (hn : n < nS c t) (hr : decide (bLies c t (n : Int) hd) = r) :
    Calls Tryz.prog 79 #[.agg #[.slice (some ⟨d, 0, none⟩) c.ts.length cap, .int .i64 t, .slice (some ⟨lb, 0, none⟩) (nS c t) lc, .slice (some ⟨fb, 0, none⟩) (nG c t) fc, .slice (some ⟨mb, 0, none⟩) (nG c t) mc, .int .i64 (wordsOf c t), .slice ca c.cl.length cc], .int .i64 n, .agg #[.int .i64 hd.c, .int .i64 hd.r, .int .i64 hd.w]] w fun e w' => e = .returned (.bool r) ∧ Ext w w' := by
  obtain ⟨z, hz⟩ : ∃ z, w.heap.size = z := ⟨_, rfl⟩
  obtain ⟨W0, hW0, hB, x0⟩ := bd1 w hz d lb fb mb lc fc mc cc cap ca c t
  have B := Lib.hid hB; have X := Lib.hid x0
  have H := Lib.hid (h.ext x0)
  obtain ⟨W1, hW1, hY, x1⟩ : ∃ W, W0.alloc (.cells #[.int .i64 hd.c, .int .i64 hd.r, .int .i64 hd.w] 29) = W ∧ BoxG W (z + 1) [.int .i64 hd.c, .int .i64 hd.r, .int .i64 hd.w] ∧ Ext W0 W := ⟨_, rfl, BoxG.new W0 _ _ (by rw [← hW0]; simp [hz]), (Ext.refl _).alloc _⟩
  replace H := Lib.hid (H.out.ext x1); replace B := Lib.hid (B.out.ext x1); replace X := Lib.hid (X.out.trans x1)
  have Y := Lib.hid hY
  have hz1 : W0.heap.size = z + 1 := by rw [← hW0]; simp [hz]
  have sb := slotB h.ko h.ti (bIn_of hn)
  have s64 := sb.s64; have s2 := sb.s2
  have HR : Hid ((hdok hd ∧ hd.c = (kOf c t (n : Int) : Int) ∧ hd.r + hd.w + 1 ≤ bSz c t (n : Int)) ↔ r = true) := Lib.hid (by rw [← hr, decide_eq_true_iff]; rfl)
  have n0 : (0 : Int) ≤ (n : Int) := Int.natCast_nonneg _
  have n1 : (n : Int) < (nS c t : Int) := by omega
  have HN := Lib.hid hn
  clear h sb hr hB x0 x1 hY hn
  obtain ⟨K, hK⟩ : ∃ K, kOf c t (n : Int) = K := ⟨_, rfl⟩
  obtain ⟨S, hS⟩ : ∃ S, bSz c t (n : Int) = S := ⟨_, rfl⟩
  rw [hK, hS] at HR
  rw [hS] at s2 s64
  have SL : Hid (∀ W : World, DBd P W d lb fb mb ca c t ws → W.cell? ⟨lb, n * 4, none⟩ = some (.int .i64 (K : Int)) ∧ W.cell? ⟨lb, n * 4 + 1, none⟩ = some (.int .i64 S)) := Lib.hid fun W q => by
    have := q.slot HN.out
    rw [hK, hS] at this
    exact ⟨this.1, this.2.1⟩
  clear hK hS
  have y0 := Y.out.c 0 _ rfl; have y1 := Y.out.c 1 _ rfl; have y2 := Y.out.c 2 _ rfl
  have yl := Y.out.lt
  go_enter Tryz.func79, Tryz.ntmps79
  obtain ⟨p, q, hp⟩ : ∃ p q, hdneed hd = (p, q) := ⟨_, _, rfl⟩
  have HP := Lib.hid hp
  go_wp2_with fail
  clear hW0 hW1 hz hz1 y0 y1 y2 yl hp
  refine (ref08_Need hd p q HP.out).mono ?_
  rintro e w2 ⟨rfl, x2⟩
  replace H := Lib.hid (H.out.ext x2); replace B := Lib.hid (B.out.ext x2); replace X := Lib.hid (X.out.trans x2); replace Y := Lib.hid (Y.out.ext x2)
  clear x2
  go_upto_region 2 with fail
  have b0 := B.out.c 0 _ rfl; have b1 := B.out.c 1 _ rfl; have b2 := B.out.c 2 _ rfl
  have y0 := Y.out.c 0 _ rfl; have y1 := Y.out.c 1 _ rfl; have y2 := Y.out.c 2 _ rfl
  obtain ⟨c0, c1⟩ := SL.out _ H.out
  have d0 := fun d os => cell_regrown b0 d os; have d1 := fun d os => cell_regrown b1 d os; have d2 := fun d os => cell_regrown b2 d os
  have e0 := fun d os => cell_regrown y0 d os; have e1 := fun d os => cell_regrown y1 d os; have e2 := fun d os => cell_regrown y2 d os
  have f0 := fun d os => cell_regrown c0 d os; have f1 := fun d os => cell_regrown c1 d os
  clear b0 b1 b2 y0 y1 y2 c0 c1
  by_cases hk : hdok hd
  · obtain ⟨rfl, rfl⟩ : hd.r + hd.w + 1 = p ∧ 0 = q := by
      have := HP.out; unfold hdneed at this; rw [if_pos hk] at this
      injection this with e1 e2; exact ⟨e1, e2⟩
    by_cases hc : hd.c = (K : Int)
    · have tc : (hd.c == (K : Int)) = true := by simpa using hc
      have tc' : decide (hd.c = (K : Int)) = true := decide_eq_true hc
      by_cases hm : hd.r + hd.w + 1 ≤ S
      · obtain rfl : r = true := HR.out.1 ⟨hk, hc, hm⟩
        have tm : decide (hd.r + hd.w + 1 ≤ S) = true := decide_eq_true hm
        clear hk
        refine wp_region_quiet_below (by kernel_rfl) (by kernel_rfl) ?_
        repeat (any_goals (first | go_big_quiet_step (fail) | quiet_step (fail)))
        refine wpQuiet_nil ?_
        intro _ hw'
        obtain ⟨⟨dq, osq⟩, hw''⟩ := hw'
        obtain ⟨WQ, hWQ⟩ := grown_ex hw''
        have xq := hWQ.2
        obtain rfl := hWQ.1
        clear hw'' hWQ
        go_wp2_with fail
        go_ret
        exact ⟨rfl, X.out.trans xq⟩
      · obtain rfl : r = false := by
          cases r
          · rfl
          · exact absurd (HR.out.2 rfl).2.2 hm
        have tm : decide (hd.r + hd.w + 1 ≤ S) = false := decide_eq_false hm
        clear hk
        refine wp_region_quiet_below (by kernel_rfl) (by kernel_rfl) ?_
        repeat (any_goals (first | go_big_quiet_step (fail) | quiet_step (fail)))
        refine wpQuiet_nil ?_
        intro _ hw'
        obtain ⟨⟨dq, osq⟩, hw''⟩ := hw'
        obtain ⟨WQ, hWQ⟩ := grown_ex hw''
        have xq := hWQ.2
        obtain rfl := hWQ.1
        clear hw'' hWQ
        go_wp2_with fail
        go_ret
        exact ⟨rfl, X.out.trans xq⟩
    · obtain rfl : r = false := by
        cases r
        · rfl
        · exact absurd (HR.out.2 rfl).2.1 hc
      have tc : (hd.c == (K : Int)) = false := by simpa using hc
      have tc' : decide (hd.c = (K : Int)) = false := decide_eq_false hc
      clear hk
      refine wp_region_quiet_below (by kernel_rfl) (by kernel_rfl) ?_
      repeat (any_goals (first | go_big_quiet_step (fail) | quiet_step (fail)))
      refine wpQuiet_nil ?_
      intro _ hw'
      obtain ⟨⟨dq, osq⟩, hw''⟩ := hw'
      obtain ⟨WQ, hWQ⟩ := grown_ex hw''
      have xq := hWQ.2
      obtain rfl := hWQ.1
      clear hw'' hWQ
      go_wp2_with fail
      go_ret
      exact ⟨rfl, X.out.trans xq⟩
  · obtain ⟨rfl, rfl⟩ : 0 = p ∧ 2 = q := by
      have := HP.out; unfold hdneed at this; rw [if_neg hk] at this
      injection this with e1 e2; exact ⟨e1, e2⟩
    obtain rfl : r = false := by
      cases r
      · rfl
      · exact absurd (HR.out.2 rfl).1 hk
    clear hk
    refine wp_region_quiet_below (by kernel_rfl) (by kernel_rfl) ?_
    repeat (any_goals (first | go_big_quiet_step (fail) | quiet_step (fail)))
    refine wpQuiet_nil ?_
    intro _ hw'
    obtain ⟨⟨dq, osq⟩, hw''⟩ := hw'
    obtain ⟨WQ, hWQ⟩ := grown_ex hw''
    have xq := hWQ.2
    obtain rfl := hWQ.1
    clear hw'' hWQ
    go_wp2_with fail
    go_ret
    exact ⟨rfl, X.out.trans xq⟩

set_option maxHeartbeats 4000000 in
theorem ref11_Head {hd : Hd} (h : DBd P w d lb fb mb ca c t ws) (hr : bHead c t ws s = (hd, k)) :
    Calls Tryz.prog 50 #[.agg #[.slice (some ⟨d, 0, none⟩) c.ts.length cap, .int .i64 t, .slice (some ⟨lb, 0, none⟩) (nS c t) lc, .slice (some ⟨fb, 0, none⟩) (nG c t) fc, .slice (some ⟨mb, 0, none⟩) (nG c t) mc, .int .i64 (wordsOf c t), .slice ca c.cl.length cc], .int .i64 s] w fun e w' => e = .returned (.tuple #[.agg #[.int .i64 hd.c, .int .i64 hd.r, .int .i64 hd.w], .int .i64 k]) ∧ Ext w w' := by
  obtain ⟨z, hz⟩ : ∃ z, w.heap.size = z := ⟨_, rfl⟩
  obtain ⟨W0, hW0, hB, x0⟩ := bd1 w hz d lb fb mb lc fc mc cc cap ca c t
  have B := Lib.hid hB; have X := Lib.hid x0
  have H := Lib.hid (h.ext x0)
  obtain ⟨W1, hW1, hR, x1⟩ : ∃ W, W0.alloc (.cells #[.int .i64 0, .int .i64 0, .int .i64 0] 29) = W ∧ BoxG W (z + 1) [.int .i64 0, .int .i64 0, .int .i64 0] ∧ Ext W0 W := ⟨_, rfl, BoxG.new W0 _ _ (by rw [← hW0]; simp [hz]), (Ext.refl _).alloc _⟩
  have R := Lib.hid hR
  replace H := Lib.hid (H.out.ext x1); replace B := Lib.hid (B.out.ext x1); replace X := Lib.hid (X.out.trans x1)
  have hz1 : W0.heap.size = z + 1 := by rw [← hW0]; simp [hz]
  have ZL := Lib.hid (show w.heap.size ≤ z + 1 by omega)
  unfold bHead at hr
  by_cases hi : bIn c t s
  · rw [if_pos hi] at hr
    have HH : Hid (∀ W : World, Calls Tryz.prog 22 #[.agg #[.slice (some ⟨lb, 0, none⟩) (nS c t) lc, .slice (some ⟨fb, 0, none⟩) (nG c t) fc, .slice (some ⟨mb, 0, none⟩) (nG c t) mc, .int .i64 (wordsOf c t), .slice ca c.cl.length cc], .int .i64 s] W fun e w' => e = .returned (.bool true) ∧ Ext W w') := Lib.hid fun W => by
      have q := ref09_Has (lb := lb) (lc := lc) (fb := fb) (fc := fc) (mb := mb) (mc := mc) (ca := ca) (cc := cc) (c := c) (t := t) (s := s) (w := W) true (by unfold bIn at hi; simpa using hi)
      unfold dpv at q
      exact q
    obtain ⟨n, rfl, hn⟩ := bIn_nat hi
    have HN := Lib.hid hn
    have J0 := Lib.hid (show ((0 : Nat) : Int) < bSz c t (n : Int) by have := (slotB h.ko h.ti hi).s2; omega)
    obtain ⟨u, hu⟩ : ∃ u, bwd c t ws (n : Int) 0 = u := ⟨_, rfl⟩
    have UB := Lib.hid (show 0 ≤ u ∧ u < 18446744073709551616 by rw [← hu]; exact h.ok _)
    have HU := Lib.hid hu
    rw [hu] at hr
    have HR := Lib.hid hr
    clear h hi hr hu hn hB hR x0 x1
    have b0 := B.out.c 0 _ rfl; have b1 := B.out.c 1 _ rfl; have b2 := B.out.c 2 _ rfl; have b3 := B.out.c 3 _ rfl; have b4 := B.out.c 4 _ rfl; have b5 := B.out.c 5 _ rfl; have b6 := B.out.c 6 _ rfl
    have bz := B.out.lt
    go_enter Tryz.func50, Tryz.ntmps50
    go_wp2_with fail
    clear hW0 hW1 hz hz1
    refine (HH.out _).mono ?_
    rintro e w2 ⟨rfl, x2⟩
    clear b0 b1 b2 b3 b4 b5 b6 bz
    replace H := Lib.hid (H.out.ext x2); replace X := Lib.hid (X.out.trans x2); replace B := Lib.hid (B.out.ext x2); replace R := Lib.hid (R.out.ext x2)
    clear x2
    have b0 := B.out.c 0 _ rfl; have b1 := B.out.c 1 _ rfl; have b2 := B.out.c 2 _ rfl; have b3 := B.out.c 3 _ rfl; have b4 := B.out.c 4 _ rfl; have b5 := B.out.c 5 _ rfl; have b6 := B.out.c 6 _ rfl
    have bz := B.out.lt
    go_wp2_with fail
    clear b0 b1 b2 b3 b4 b5 b6 bz
    have LD := ref11_load (lc := lc) (fc := fc) (mc := mc) (cc := cc) (cap := cap) (j := 0) u H.out HN.out J0.out HU.out
    refine LD.mono ?_
    rintro e w3 ⟨rfl, x3⟩
    clear LD
    replace H := Lib.hid (H.out.ext x3); replace X := Lib.hid (X.out.trans x3); replace B := Lib.hid (B.out.ext x3); replace R := Lib.hid (R.out.ext x3)
    clear x3
    obtain ⟨g, q, hg⟩ : ∃ g q, hdget u = (g, q) := ⟨_, _, rfl⟩
    have HG := Lib.hid hg
    clear hg
    go_wp2_with fail
    refine (ref08_Get u g q HG.out UB.out.1 UB.out.2).mono ?_
    rintro e w4 ⟨rfl, x4⟩
    replace H := Lib.hid (H.out.ext x4); replace X := Lib.hid (X.out.trans x4); replace B := Lib.hid (B.out.ext x4); replace R := Lib.hid (R.out.ext x4)
    clear x4
    go_upto_region 4 with fail
    obtain ⟨y, hy⟩ : ∃ y, w4.heap.size = y := ⟨_, rfl⟩
    obtain ⟨W5, hW5, hY, x5⟩ : ∃ W, w4.alloc (.cells #[.int .i64 g.c, .int .i64 g.r, .int .i64 g.w] 29) = W ∧ BoxG W y [.int .i64 g.c, .int .i64 g.r, .int .i64 g.w] ∧ Ext w4 W := ⟨_, rfl, BoxG.new w4 _ _ hy, (Ext.refl _).alloc _⟩
    rw [hW5, hy]
    have Y := Lib.hid hY
    clear hW5 hy hY
    replace H := Lib.hid (H.out.ext x5); replace X := Lib.hid (X.out.trans x5); replace B := Lib.hid (B.out.ext x5); replace R := Lib.hid (R.out.ext x5)
    clear x5
    have y0 := Y.out.c 0 _ rfl; have y1 := Y.out.c 1 _ rfl; have y2 := Y.out.c 2 _ rfl
    have yl := Y.out.lt
    by_cases hu : hdis u
    · obtain ⟨e1, e2⟩ : hdraw u = g ∧ 0 = q := by
        have := HG.out
        rw [hdget_yes hu] at this
        injection this with e1 e2
        exact ⟨e1, e2⟩
      subst e2
      have hr := HR.out
      rw [e1] at hr
      clear e1
      by_cases hl : bLies c t (n : Int) g
      · rw [if_pos ⟨hu, hl⟩] at hr
        obtain ⟨rfl, rfl⟩ : g = hd ∧ 0 = k := by injection hr with e1 e2; exact ⟨e1, e2⟩
        have HL := Lib.hid (decide_eq_true hl)
        clear hu hl hr
        have b0 := B.out.c 0 _ rfl; have b1 := B.out.c 1 _ rfl; have b2 := B.out.c 2 _ rfl; have b3 := B.out.c 3 _ rfl; have b4 := B.out.c 4 _ rfl; have b5 := B.out.c 5 _ rfl; have b6 := B.out.c 6 _ rfl
        have bz := B.out.lt
        go_wp2_with fail
        clear b0 b1 b2 b3 b4 b5 b6 bz
        refine (ref11_lies true g H.out HN.out HL.out).mono ?_
        rintro e w6 ⟨rfl, x6⟩
        clear y0 y1 y2 yl
        replace H := Lib.hid (H.out.ext x6); replace X := Lib.hid (X.out.trans x6); replace B := Lib.hid (B.out.ext x6); replace R := Lib.hid (R.out.ext x6); replace Y := Lib.hid (Y.out.ext x6)
        clear x6
        have y0 := Y.out.c 0 _ rfl; have y1 := Y.out.c 1 _ rfl; have y2 := Y.out.c 2 _ rfl
        have yl := Y.out.lt
        have f0 := R.out.f 0; have f1 := R.out.f 1; have f2 := R.out.f 2
        have r0 := R.out.c 0 _ rfl; have r1 := R.out.c 1 _ rfl; have r2 := R.out.c 2 _ rfl
        have rl := R.out.lt
        go_wp2_with fail
        have RB := R.out.set3 (.int .i64 g.c) (.int .i64 g.r) (.int .i64 g.w)
        have q0 := RB.c 0 _ rfl; have q1 := RB.c 1 _ rfl; have q2 := RB.c 2 _ rfl
        refine bodyPost_ret (v := .tuple #[.agg #[.int .i64 g.c, .int .i64 g.r, .int .i64 g.w], .int .i64 0]) (by simp [results, Tryz.results50, go_sem, q0, q1, q2]) rfl ⟨rfl, ((X.out.setCell (p := ⟨z + 1, 0, none⟩) ZL.out _).setCell (p := ⟨z + 1, 1, none⟩) ZL.out _).setCell (p := ⟨z + 1, 2, none⟩) ZL.out _⟩
      · rw [if_neg (fun q => hl q.2)] at hr
        obtain ⟨rfl, rfl⟩ : hdnil = hd ∧ 5 = k := by injection hr with e1 e2; exact ⟨e1, e2⟩
        have HL := Lib.hid (decide_eq_false hl)
        clear hu hl hr
        have b0 := B.out.c 0 _ rfl; have b1 := B.out.c 1 _ rfl; have b2 := B.out.c 2 _ rfl; have b3 := B.out.c 3 _ rfl; have b4 := B.out.c 4 _ rfl; have b5 := B.out.c 5 _ rfl; have b6 := B.out.c 6 _ rfl
        have bz := B.out.lt
        go_wp2_with fail
        clear b0 b1 b2 b3 b4 b5 b6 bz
        refine (ref11_lies false g H.out HN.out HL.out).mono ?_
        rintro e w6 ⟨rfl, x6⟩
        clear y0 y1 y2 yl
        replace H := Lib.hid (H.out.ext x6); replace X := Lib.hid (X.out.trans x6); replace B := Lib.hid (B.out.ext x6); replace R := Lib.hid (R.out.ext x6); replace Y := Lib.hid (Y.out.ext x6)
        clear x6
        have y0 := Y.out.c 0 _ rfl; have y1 := Y.out.c 1 _ rfl; have y2 := Y.out.c 2 _ rfl
        have yl := Y.out.lt
        have f0 := R.out.f 0; have f1 := R.out.f 1; have f2 := R.out.f 2
        have r0 := R.out.c 0 _ rfl; have r1 := R.out.c 1 _ rfl; have r2 := R.out.c 2 _ rfl
        have rl := R.out.lt
        go_wp2_with fail
        have RB := R.out.set3 (.int .i64 0) (.int .i64 0) (.int .i64 0)
        have q0 := RB.c 0 _ rfl; have q1 := RB.c 1 _ rfl; have q2 := RB.c 2 _ rfl
        refine bodyPost_ret (v := .tuple #[.agg #[.int .i64 0, .int .i64 0, .int .i64 0], .int .i64 5]) (by simp [results, Tryz.results50, go_sem, q0, q1, q2]) rfl ⟨rfl, ((X.out.setCell (p := ⟨z + 1, 0, none⟩) ZL.out _).setCell (p := ⟨z + 1, 1, none⟩) ZL.out _).setCell (p := ⟨z + 1, 2, none⟩) ZL.out _⟩
    · obtain ⟨e1, e2⟩ : hdnil = g ∧ 5 = q := by
        have := HG.out
        rw [hdget_no hu] at this
        injection this with e1 e2
        exact ⟨e1, e2⟩
      subst e2
      have hr := HR.out
      rw [if_neg (fun q => hu q.1)] at hr
      obtain ⟨rfl, rfl⟩ : hdnil = hd ∧ 5 = k := by injection hr with e1 e2; exact ⟨e1, e2⟩
      clear hu e1 hr
      have f0 := R.out.f 0; have f1 := R.out.f 1; have f2 := R.out.f 2
      have r0 := R.out.c 0 _ rfl; have r1 := R.out.c 1 _ rfl; have r2 := R.out.c 2 _ rfl
      have rl := R.out.lt
      go_wp2_with fail
      have RB := R.out.set3 (.int .i64 0) (.int .i64 0) (.int .i64 0)
      have q0 := RB.c 0 _ rfl; have q1 := RB.c 1 _ rfl; have q2 := RB.c 2 _ rfl
      refine bodyPost_ret (v := .tuple #[.agg #[.int .i64 0, .int .i64 0, .int .i64 0], .int .i64 5]) (by simp [results, Tryz.results50, go_sem, q0, q1, q2]) rfl ⟨rfl, ((X.out.setCell (p := ⟨z + 1, 0, none⟩) ZL.out _).setCell (p := ⟨z + 1, 1, none⟩) ZL.out _).setCell (p := ⟨z + 1, 2, none⟩) ZL.out _⟩
  · rw [if_neg hi] at hr
    have HH : Hid (∀ W : World, Calls Tryz.prog 22 #[.agg #[.slice (some ⟨lb, 0, none⟩) (nS c t) lc, .slice (some ⟨fb, 0, none⟩) (nG c t) fc, .slice (some ⟨mb, 0, none⟩) (nG c t) mc, .int .i64 (wordsOf c t), .slice ca c.cl.length cc], .int .i64 s] W fun e w' => e = .returned (.bool false) ∧ Ext W w') := Lib.hid fun W => by
      have q := ref09_Has (lb := lb) (lc := lc) (fb := fb) (fc := fc) (mb := mb) (mc := mc) (ca := ca) (cc := cc) (c := c) (t := t) (s := s) (w := W) false (by unfold bIn at hi; simpa using hi)
      unfold dpv at q
      exact q
    obtain ⟨rfl, rfl⟩ : hdnil = hd ∧ 2 = k := by injection hr with e1 e2; exact ⟨e1, e2⟩
    clear h hi hr hB hR x0 x1
    have b0 := B.out.c 0 _ rfl; have b1 := B.out.c 1 _ rfl; have b2 := B.out.c 2 _ rfl; have b3 := B.out.c 3 _ rfl; have b4 := B.out.c 4 _ rfl; have b5 := B.out.c 5 _ rfl; have b6 := B.out.c 6 _ rfl
    have bz := B.out.lt
    go_enter Tryz.func50, Tryz.ntmps50
    go_wp2_with fail
    clear hW0 hW1 hz hz1
    refine (HH.out _).mono ?_
    rintro e w2 ⟨rfl, x2⟩
    clear b0 b1 b2 b3 b4 b5 b6 bz
    replace H := Lib.hid (H.out.ext x2); replace X := Lib.hid (X.out.trans x2); replace B := Lib.hid (B.out.ext x2); replace R := Lib.hid (R.out.ext x2)
    clear x2
    have f0 := R.out.f 0; have f1 := R.out.f 1; have f2 := R.out.f 2
    have r0 := R.out.c 0 _ rfl; have r1 := R.out.c 1 _ rfl; have r2 := R.out.c 2 _ rfl
    have rl := R.out.lt
    go_wp2_with fail
    have RB := R.out.set3 (.int .i64 0) (.int .i64 0) (.int .i64 0)
    have q0 := RB.c 0 _ rfl; have q1 := RB.c 1 _ rfl; have q2 := RB.c 2 _ rfl
    refine bodyPost_ret (v := .tuple #[.agg #[.int .i64 0, .int .i64 0, .int .i64 0], .int .i64 2]) (by simp [results, Tryz.results50, go_sem, q0, q1, q2]) rfl ⟨rfl, ((X.out.setCell (p := ⟨z + 1, 0, none⟩) ZL.out _).setCell (p := ⟨z + 1, 1, none⟩) ZL.out _).setCell (p := ⟨z + 1, 2, none⟩) ZL.out _⟩

set_option maxHeartbeats 4000000 in
theorem ref11_field (ref : Bool) (h : DBd P w d lb fb mb ca c t ws) (hr : bField c t ws s i ref = k) :
    Calls Tryz.prog 75 #[.agg #[.slice (some ⟨d, 0, none⟩) c.ts.length cap, .int .i64 t, .slice (some ⟨lb, 0, none⟩) (nS c t) lc, .slice (some ⟨fb, 0, none⟩) (nG c t) fc, .slice (some ⟨mb, 0, none⟩) (nG c t) mc, .int .i64 (wordsOf c t), .slice ca c.cl.length cc], .int .i64 s, .int .i64 i, .bool ref] w fun e w' => e = .returned (.int .i64 k) ∧ Ext w w' := by
  obtain ⟨z, hz⟩ : ∃ z, w.heap.size = z := ⟨_, rfl⟩
  obtain ⟨W0, hW0, hB, x0⟩ := bd1 w hz d lb fb mb lc fc mc cc cap ca c t
  have B := Lib.hid hB; have X := Lib.hid x0
  have H := Lib.hid (h.ext x0)
  unfold bField at hr
  obtain ⟨hd, q, hh⟩ : ∃ hd q, bHead c t ws s = (hd, q) := ⟨_, _, rfl⟩
  have HH := Lib.hid hh
  rw [hh] at hr
  clear h hh hB x0
  have b0 := B.out.c 0 _ rfl; have b1 := B.out.c 1 _ rfl; have b2 := B.out.c 2 _ rfl; have b3 := B.out.c 3 _ rfl; have b4 := B.out.c 4 _ rfl; have b5 := B.out.c 5 _ rfl; have b6 := B.out.c 6 _ rfl
  have bz := B.out.lt
  go_enter Tryz.func75, Tryz.ntmps75
  go_wp2_with fail
  clear hW0 hz
  refine (ref11_Head H.out HH.out).mono ?_
  rintro e w2 ⟨rfl, x2⟩
  clear b0 b1 b2 b3 b4 b5 b6 bz
  replace H := Lib.hid (H.out.ext x2); replace X := Lib.hid (X.out.trans x2); replace B := Lib.hid (B.out.ext x2)
  clear x2
  go_upto_region 2 with fail
  obtain ⟨y, hy⟩ : ∃ y, w2.heap.size = y := ⟨_, rfl⟩
  obtain ⟨W3, hW3, hY, x3⟩ : ∃ W, w2.alloc (.cells #[.int .i64 hd.c, .int .i64 hd.r, .int .i64 hd.w] 29) = W ∧ BoxG W y [.int .i64 hd.c, .int .i64 hd.r, .int .i64 hd.w] ∧ Ext w2 W := ⟨_, rfl, BoxG.new w2 _ _ hy, (Ext.refl _).alloc _⟩
  rw [hW3, hy]
  have Y := Lib.hid hY
  clear hW3 hy hY
  replace H := Lib.hid (H.out.ext x3); replace X := Lib.hid (X.out.trans x3); replace B := Lib.hid (B.out.ext x3)
  clear x3
  by_cases hq : q = 0
  · subst hq
    rw [if_pos rfl] at hr
    obtain ⟨f, e2, hf⟩ : ∃ f e2, hdfield hd i = (f, e2) := ⟨_, _, rfl⟩
    have HF := Lib.hid hf
    change (if hdfield hd i = (ref, 0) then (0 : Int) else 110) = k at hr
    rw [hf] at hr
    clear hf
    have y0 := Y.out.c 0 _ rfl; have y1 := Y.out.c 1 _ rfl; have y2 := Y.out.c 2 _ rfl
    have yl := Y.out.lt
    go_wp2_with fail
    clear y0 y1 y2 yl
    refine (ref08_Field hd i f e2 HF.out).mono ?_
    rintro e w4 ⟨rfl, x4⟩
    replace H := Lib.hid (H.out.ext x4); replace X := Lib.hid (X.out.trans x4); replace B := Lib.hid (B.out.ext x4); replace Y := Lib.hid (Y.out.ext x4)
    clear x4
    by_cases hfe : e2 = 0 ∧ f = ref
    · obtain ⟨rfl, rfl⟩ := hfe
      rw [if_pos rfl] at hr
      subst hr
      have tf : (f != f) = false := by simp
      go_wp2_with fail
      go_ret
      exact ⟨rfl, X.out⟩
    · rw [if_neg (fun e => hfe (by injection e with e1 e3; exact ⟨e3, e1⟩))] at hr
      subst hr
      by_cases he : e2 = 0
      · have hf2 : (f != ref) = true := by
          simp only [bne_iff_ne]; exact fun e => hfe ⟨he, e⟩
        have hf3 : (!f == ref) = true := by
          have : f ≠ ref := fun e => hfe ⟨he, e⟩
          cases f <;> cases ref <;> first | rfl | exact absurd rfl this
        subst he
        clear hfe
        go_wp2_with fail
        go_ret
        exact ⟨rfl, X.out⟩
      · have he2 : (e2 == 0) = false := by simpa using he
        clear hfe
        go_wp2_with fail
        go_ret
        exact ⟨rfl, X.out⟩
  · rw [if_neg (show ¬ (hd, q).2 = 0 from hq)] at hr
    change q = k at hr
    subst hr
    have tq : (q == 0) = false := by simpa using hq
    go_wp2_with fail
    go_ret
    exact ⟨rfl, X.out⟩

theorem ref11_loadI {a : Int} {n j : Nat} (u : Int) (h : DBd P w d lb fb mb ca c t ws) (hn : n < nS c t) (hj : (j : Int) < bSz c t (n : Int)) (hu : bwd c t ws (n : Int) j = u) (ha : a = (j : Int)) :
    Calls Tryz.prog 77 #[.agg #[.slice (some ⟨d, 0, none⟩) c.ts.length cap, .int .i64 t, .slice (some ⟨lb, 0, none⟩) (nS c t) lc, .slice (some ⟨fb, 0, none⟩) (nG c t) fc, .slice (some ⟨mb, 0, none⟩) (nG c t) mc, .int .i64 (wordsOf c t), .slice ca c.cl.length cc], .int .i64 n, .int .i64 a] w fun e w' => e = .returned (.int .u64 u) ∧ Ext w w' := by
  subst ha; exact ref11_load u h hn hj hu

set_option maxHeartbeats 4000000 in
theorem ref11_Ref (h : DBd P w d lb fb mb ca c t ws) (hr : bRef c t ws s i = (u, k)) :
    Calls Tryz.prog 38 #[.agg #[.slice (some ⟨d, 0, none⟩) c.ts.length cap, .int .i64 t, .slice (some ⟨lb, 0, none⟩) (nS c t) lc, .slice (some ⟨fb, 0, none⟩) (nG c t) fc, .slice (some ⟨mb, 0, none⟩) (nG c t) mc, .int .i64 (wordsOf c t), .slice ca c.cl.length cc], .int .i64 s, .int .i64 i] w fun e w' => e = .returned (.tuple #[.int .i64 u, .int .i64 k]) ∧ Ext w w' := by
  obtain ⟨z, hz⟩ : ∃ z, w.heap.size = z := ⟨_, rfl⟩
  obtain ⟨W0, hW0, hB, x0⟩ := bd1 w hz d lb fb mb lc fc mc cc cap ca c t
  have B := Lib.hid hB; have X := Lib.hid x0
  have H := Lib.hid (h.ext x0)
  have KO := Lib.hid h.ko; have TI := Lib.hid h.ti; have OK := Lib.hid h.ok
  have nl := h.ko.nS_le h.ti
  obtain ⟨q, hq⟩ : ∃ q, bField c t ws s i true = q := ⟨_, rfl⟩
  have HQ := Lib.hid hq
  have hr : (if (if q = 0 then (bwd c t ws s (1 + i.toNat), (0 : Int)) else (0, q)).2 = 0 then (if (nS c t : Int) < (if q = 0 then (bwd c t ws s (1 + i.toNat), (0 : Int)) else (0, q)).1 then ((0 : Int), (5 : Int)) else ((if q = 0 then (bwd c t ws s (1 + i.toNat), (0 : Int)) else (0, q)).1 - 1, 0)) else (0, (if q = 0 then (bwd c t ws s (1 + i.toNat), (0 : Int)) else (0, q)).2)) = (u, k) := by
    rw [← hr, ← hq]; rfl
  clear h hq hB x0
  have b0 := B.out.c 0 _ rfl; have b1 := B.out.c 1 _ rfl; have b2 := B.out.c 2 _ rfl; have b3 := B.out.c 3 _ rfl; have b4 := B.out.c 4 _ rfl; have b5 := B.out.c 5 _ rfl; have b6 := B.out.c 6 _ rfl
  have bz := B.out.lt
  go_enter Tryz.func38, Tryz.ntmps38
  go_wp2_with fail
  clear hW0 hz
  refine (ref11_field true H.out HQ.out).mono ?_
  rintro e w2 ⟨rfl, x2⟩
  clear b0 b1 b2 b3 b4 b5 b6 bz
  replace H := Lib.hid (H.out.ext x2); replace X := Lib.hid (X.out.trans x2); replace B := Lib.hid (B.out.ext x2)
  clear x2
  by_cases h0 : q = 0
  · subst h0
    rw [if_pos rfl] at hr
    obtain ⟨hi, j, hji, hj⟩ := bField_in HQ.out
    obtain ⟨n, hsn, hn⟩ := bIn_nat hi
    subst hsn
    have HN := Lib.hid hn
    have HJ := Lib.hid (show ((1 + j : Nat) : Int) < bSz c t (n : Int) by omega)
    have HI := Lib.hid (show 1 + i = ((1 + j : Nat) : Int) by omega)
    have sb := slotB KO.out TI.out hi
    have s64 := sb.s64
    have i0 : 0 ≤ i := by omega
    have i1 : i < 64 := by omega
    have wi : IntKind.i64.wrap (1 + i) = 1 + i := IntWalk.i64_in _ (by omega)
    have wi' : IntKind.i64.wrap (i + 1) = i + 1 := IntWalk.i64_in _ (by omega)
    obtain ⟨u0, hu0⟩ : ∃ u0, bwd c t ws (n : Int) (1 + j) = u0 := ⟨_, rfl⟩
    have HU := Lib.hid hu0
    have ub := OK.out (bAt c t (n : Int) (1 + j))
    change 0 ≤ bwd c t ws (n : Int) (1 + j) ∧ bwd c t ws (n : Int) (1 + j) < 18446744073709551616 at ub
    rw [hu0] at ub
    rw [show 1 + i.toNat = 1 + j by omega, hu0] at hr
    clear hi sb hj hji hn hu0
    have b0 := B.out.c 0 _ rfl; have b1 := B.out.c 1 _ rfl; have b2 := B.out.c 2 _ rfl; have b3 := B.out.c 3 _ rfl; have b4 := B.out.c 4 _ rfl; have b5 := B.out.c 5 _ rfl; have b6 := B.out.c 6 _ rfl
    have bz := B.out.lt
    go_wp2_with fail
    clear b0 b1 b2 b3 b4 b5 b6 bz
    refine (ref11_loadI u0 H.out HN.out HJ.out HU.out HI.out).mono ?_
    rintro e w3 ⟨rfl, x3⟩
    replace H := Lib.hid (H.out.ext x3); replace X := Lib.hid (X.out.trans x3); replace B := Lib.hid (B.out.ext x3)
    clear x3
    change (if (0 : Int) = 0 then (if (nS c t : Int) < u0 then ((0 : Int), (5 : Int)) else (u0 - 1, 0)) else (0, 0)) = (u, k) at hr
    rw [if_pos rfl] at hr
    obtain ⟨N, hN⟩ : ∃ N, nS c t = N := ⟨_, rfl⟩
    have wn : IntKind.u64.wrap ((nS c t : Nat) : Int) = (nS c t : Nat) := IntWalk.u64_in _ (by omega)
    by_cases hlt : (nS c t : Int) < u0
    · rw [if_pos hlt] at hr
      obtain ⟨rfl, rfl⟩ : 0 = u ∧ 5 = k := by injection hr with e1 e2; exact ⟨e1, e2⟩
      have tl : decide ((nS c t : Int) < u0) = true := decide_eq_true hlt
      have b0 := B.out.c 0 _ rfl; have b1 := B.out.c 1 _ rfl; have b2 := B.out.c 2 _ rfl; have b3 := B.out.c 3 _ rfl; have b4 := B.out.c 4 _ rfl; have b5 := B.out.c 5 _ rfl; have b6 := B.out.c 6 _ rfl
      have bz := B.out.lt
      go_wp2_with fail
      go_ret2
      exact ⟨rfl, X.out⟩
    · rw [if_neg hlt] at hr
      obtain ⟨rfl, rfl⟩ : u0 - 1 = u ∧ 0 = k := by injection hr with e1 e2; exact ⟨e1, e2⟩
      have tl : decide ((nS c t : Int) < u0) = false := decide_eq_false hlt
      have wv : IntKind.i64.wrap u0 = u0 := IntWalk.i64_in _ (by omega)
      have wv1 : IntKind.i64.wrap (u0 - 1) = u0 - 1 := IntWalk.i64_in _ (by omega)
      have b0 := B.out.c 0 _ rfl; have b1 := B.out.c 1 _ rfl; have b2 := B.out.c 2 _ rfl; have b3 := B.out.c 3 _ rfl; have b4 := B.out.c 4 _ rfl; have b5 := B.out.c 5 _ rfl; have b6 := B.out.c 6 _ rfl
      have bz := B.out.lt
      go_wp2_with fail
      go_ret2
      exact ⟨rfl, X.out⟩
  · rw [if_neg h0] at hr
    obtain ⟨rfl, rfl⟩ : 0 = u ∧ q = k := by
      change (if q = 0 then _ else ((0 : Int), q)) = (u, k) at hr; rw [if_neg h0] at hr; injection hr with e1 e2; exact ⟨e1, e2⟩
    have tq : (q == 0) = false := by simpa using h0
    go_wp2_with fail
    go_ret2
    exact ⟨rfl, X.out⟩

set_option maxHeartbeats 4000000 in
theorem ref11_Word (h : DBd P w d lb fb mb ca c t ws) (hr : bWord c t ws s i = (u, k)) :
    Calls Tryz.prog 39 #[.agg #[.slice (some ⟨d, 0, none⟩) c.ts.length cap, .int .i64 t, .slice (some ⟨lb, 0, none⟩) (nS c t) lc, .slice (some ⟨fb, 0, none⟩) (nG c t) fc, .slice (some ⟨mb, 0, none⟩) (nG c t) mc, .int .i64 (wordsOf c t), .slice ca c.cl.length cc], .int .i64 s, .int .i64 i] w fun e w' => e = .returned (.tuple #[.int .u64 u, .int .i64 k]) ∧ Ext w w' := by
  obtain ⟨z, hz⟩ : ∃ z, w.heap.size = z := ⟨_, rfl⟩
  obtain ⟨W0, hW0, hB, x0⟩ := bd1 w hz d lb fb mb lc fc mc cc cap ca c t
  have B := Lib.hid hB; have X := Lib.hid x0
  have H := Lib.hid (h.ext x0)
  have KO := Lib.hid h.ko; have TI := Lib.hid h.ti; have OK := Lib.hid h.ok
  have nl := h.ko.nS_le h.ti
  obtain ⟨q, hq⟩ : ∃ q, bField c t ws s i false = q := ⟨_, rfl⟩
  have HQ := Lib.hid hq
  have hr : (if q = 0 then (bwd c t ws s (1 + i.toNat), (0 : Int)) else (0, q)) = (u, k) := by
    rw [← hr, ← hq]; rfl
  clear h hq hB x0
  have b0 := B.out.c 0 _ rfl; have b1 := B.out.c 1 _ rfl; have b2 := B.out.c 2 _ rfl; have b3 := B.out.c 3 _ rfl; have b4 := B.out.c 4 _ rfl; have b5 := B.out.c 5 _ rfl; have b6 := B.out.c 6 _ rfl
  have bz := B.out.lt
  go_enter Tryz.func39, Tryz.ntmps39
  go_wp2_with fail
  clear hW0 hz
  refine (ref11_field false H.out HQ.out).mono ?_
  rintro e w2 ⟨rfl, x2⟩
  clear b0 b1 b2 b3 b4 b5 b6 bz
  replace H := Lib.hid (H.out.ext x2); replace X := Lib.hid (X.out.trans x2); replace B := Lib.hid (B.out.ext x2)
  clear x2
  by_cases h0 : q = 0
  · subst h0
    rw [if_pos rfl] at hr
    obtain ⟨hi, j, hji, hj⟩ := bField_in HQ.out
    obtain ⟨n, hsn, hn⟩ := bIn_nat hi
    subst hsn
    have HN := Lib.hid hn
    have HJ := Lib.hid (show ((1 + j : Nat) : Int) < bSz c t (n : Int) by omega)
    have HI := Lib.hid (show 1 + i = ((1 + j : Nat) : Int) by omega)
    have sb := slotB KO.out TI.out hi
    have s64 := sb.s64
    have i0 : 0 ≤ i := by omega
    have i1 : i < 64 := by omega
    have wi : IntKind.i64.wrap (1 + i) = 1 + i := IntWalk.i64_in _ (by omega)
    have wi' : IntKind.i64.wrap (i + 1) = i + 1 := IntWalk.i64_in _ (by omega)
    obtain ⟨u0, hu0⟩ : ∃ u0, bwd c t ws (n : Int) (1 + j) = u0 := ⟨_, rfl⟩
    have HU := Lib.hid hu0
    have ub := OK.out (bAt c t (n : Int) (1 + j))
    change 0 ≤ bwd c t ws (n : Int) (1 + j) ∧ bwd c t ws (n : Int) (1 + j) < 18446744073709551616 at ub
    rw [hu0] at ub
    rw [show 1 + i.toNat = 1 + j by omega, hu0] at hr
    clear hi sb hj hji hn hu0
    have b0 := B.out.c 0 _ rfl; have b1 := B.out.c 1 _ rfl; have b2 := B.out.c 2 _ rfl; have b3 := B.out.c 3 _ rfl; have b4 := B.out.c 4 _ rfl; have b5 := B.out.c 5 _ rfl; have b6 := B.out.c 6 _ rfl
    have bz := B.out.lt
    go_wp2_with fail
    clear b0 b1 b2 b3 b4 b5 b6 bz
    refine (ref11_loadI u0 H.out HN.out HJ.out HU.out HI.out).mono ?_
    rintro e w3 ⟨rfl, x3⟩
    replace H := Lib.hid (H.out.ext x3); replace X := Lib.hid (X.out.trans x3); replace B := Lib.hid (B.out.ext x3)
    clear x3
    obtain ⟨rfl, rfl⟩ : u0 = u ∧ 0 = k := by injection hr with e1 e2; exact ⟨e1, e2⟩
    go_wp2_with fail
    go_ret2
    exact ⟨rfl, X.out⟩
  · rw [if_neg h0] at hr
    obtain ⟨rfl, rfl⟩ : 0 = u ∧ q = k := by
      injection hr with e1 e2; exact ⟨e1, e2⟩
    have tq : (q == 0) = false := by simpa using h0
    go_wp2_with fail
    go_ret2
    exact ⟨rfl, X.out⟩

end Go.Proofs.YtnbngcagnchkdaaGreatDoor

/-! commonageref11: store, Wipe, Make, SetRef, SetWord. (Printed by wip/gen11c.py.) -/
namespace Go.Proofs.YtnbngcagnchkdaaGreatDoor
open Go.RowKit
variable {P Q : Nat → Prop} {w w' W : World} {d lb fb mb lc fc mc cc cap : Nat} {ca : Option Addr} {c : Conf} {t : Nat} {ws ws' : List Int} {s i k u x : Int}

theorem BoxG.set7 {z : Nat} {u0 u1 u2 u3 u4 u5 u6 : Value} (h : BoxG w z [u0, u1, u2, u3, u4, u5, u6]) (v0 v1 v2 v3 v4 v5 v6 : Value) :
    BoxG (((((((w.setCell ⟨z, 0, none⟩ v0).setCell ⟨z, 1, none⟩ v1).setCell ⟨z, 2, none⟩ v2).setCell ⟨z, 3, none⟩ v3).setCell ⟨z, 4, none⟩ v4).setCell ⟨z, 5, none⟩ v5).setCell ⟨z, 6, none⟩ v6) z [v0, v1, v2, v3, v4, v5, v6] :=
  ((((((h.set (i := 0) (by simp) v0).set (i := 1) (by simp) v1).set (i := 2) (by simp) v2).set (i := 3) (by simp) v3).set (i := 4) (by simp) v4).set (i := 5) (by simp) v5).set (i := 6) (by simp) v6
theorem chg7 (w : World) (z : Nat) (v0 v1 v2 v3 v4 v5 v6 : Value) : Chg (fun k => k = z) w (((((((w.setCell ⟨z, 0, none⟩ v0).setCell ⟨z, 1, none⟩ v1).setCell ⟨z, 2, none⟩ v2).setCell ⟨z, 3, none⟩ v3).setCell ⟨z, 4, none⟩ v4).setCell ⟨z, 5, none⟩ v5).setCell ⟨z, 6, none⟩ v6) :=
  ((((((((Chg.refl (fun k => k = z) w).setCell (p := ⟨z, 0, none⟩) (.inl rfl) v0).setCell (p := ⟨z, 1, none⟩) (.inl rfl) v1).setCell (p := ⟨z, 2, none⟩) (.inl rfl) v2).setCell (p := ⟨z, 3, none⟩) (.inl rfl) v3).setCell (p := ⟨z, 4, none⟩) (.inl rfl) v4).setCell (p := ⟨z, 5, none⟩) (.inl rfl) v5).setCell (p := ⟨z, 6, none⟩) (.inl rfl) v6)
/-- Two boxes of a body each lie behind what there was. -/
def P2 (P : Nat → Prop) (z k : Nat) : Prop := P k ∨ k = z ∨ k = z + 1
theorem DBd.two {z : Nat} (h : DBd P w d lb fb mb ca c t ws) (hz : w.heap.size = z) : DBd (P2 P z) w d lb fb mb ca c t ws :=
  h.swap fun k hk q => by rcases q with q | q | q; exact q; all_goals omega
theorem DBd.one {z : Nat} (h : DBd (P2 P z) w d lb fb mb ca c t ws) : DBd P w d lb fb mb ca c t ws := h.swap fun _ _ q => .inl q
theorem bd2 (w : World) {z : Nat} (hz : w.heap.size = z) (d lb fb mb lc fc mc cc cap : Nat) (ca : Option Addr) (c : Conf) (t : Nat) :
    ∃ W, (w.alloc (.cells #[.slice (some ⟨d, 0, none⟩) c.ts.length cap, .int .i64 t, .slice (some ⟨lb, 0, none⟩) (nS c t) lc, .slice (some ⟨fb, 0, none⟩) (nG c t) fc, .slice (some ⟨mb, 0, none⟩) (nG c t) mc, .int .i64 (wordsOf c t), .slice ca c.cl.length cc] 41)).alloc (.cells #[.slice none 0 0, .int .i64 0, .slice none 0 0, .slice none 0 0, .slice none 0 0, .int .i64 0, .slice none 0 0] 41) = W ∧ BoxG W z [.slice (some ⟨d, 0, none⟩) c.ts.length cap, .int .i64 t, .slice (some ⟨lb, 0, none⟩) (nS c t) lc, .slice (some ⟨fb, 0, none⟩) (nG c t) fc, .slice (some ⟨mb, 0, none⟩) (nG c t) mc, .int .i64 (wordsOf c t), .slice ca c.cl.length cc] ∧ BoxG W (z + 1) [.slice none 0 0, .int .i64 0, .slice none 0 0, .slice none 0 0, .slice none 0 0, .int .i64 0, .slice none 0 0] ∧ Ext w W :=
  ⟨_, rfl, (BoxG.new w _ _ hz).ext ((Ext.refl _).alloc _), BoxG.new _ _ _ (by simp [hz]), ((Ext.refl w).alloc _).alloc _⟩
theorem bdoc_Store {a : Int} (h : DBd P w d lb fb mb ca c t ws) (hx : Ext w W) (hP : ∀ k, P k → k < w.heap.size) (hr : storeR c ws t a x = (ws', k)) :
    Calls Tryz.prog 21 #[.agg #[.slice (some ⟨d, 0, none⟩) c.ts.length cap], .int .i64 t, .int .i64 a, .int .u64 x] W fun e w' => ∃ d2 cap2, e = .returned (.tuple #[.agg #[.slice (some ⟨d2, 0, none⟩) c.ts.length cap2], .int .i64 k]) ∧ DocAt P w' d2 c ws' ∧ Ext w w' :=
  (ref07_Store (h.doc.ext hx) (fun k q => Nat.lt_of_lt_of_le (hP k q) hx.size) hr).mono fun _ _ ⟨d2, cap2, e, hd, x2⟩ => ⟨d2, cap2, e, hd, hx.trans x2⟩
theorem bdoc_Zero {a n : Int} (h : DBd P w d lb fb mb ca c t ws) (hx : Ext w W) (hP : ∀ k, P k → k < w.heap.size) (hr : zeroR c ws t a n = (ws', k)) (ha : is64 a) (hn : is64 n) :
    Calls Tryz.prog 78 #[.agg #[.slice (some ⟨d, 0, none⟩) c.ts.length cap], .int .i64 t, .int .i64 a, .int .i64 n] W fun e w' => ∃ d2 cap2, e = .returned (.tuple #[.agg #[.slice (some ⟨d2, 0, none⟩) c.ts.length cap2], .int .i64 k]) ∧ DocAt P w' d2 c ws' ∧ Ext w w' :=
  (ref07_Zero (h.doc.ext hx) (fun k q => Nat.lt_of_lt_of_le (hP k q) hx.size) hr ha hn).mono fun _ _ ⟨d2, cap2, e, hd, x2⟩ => ⟨d2, cap2, e, hd, hx.trans x2⟩
/-- A memory's box, laid ahead of the call, or behind it. -/
theorem mA {W1 w3 : World} {y : Nat} (v : Value) (x3 : Ext W1 w3) (hy : W1.heap.size ≤ y) (c3 : w3.cell? ⟨y, 0, none⟩ = some (.slice none 0 0)) (hd : DocAt P w3 d c ws') :
    ∃ W4, w3.setCell ⟨y, 0, none⟩ v = W4 ∧ W4.cell? ⟨y, 0, none⟩ = some v ∧ y < W4.heap.size ∧ DocAt P W4 d c ws' ∧ Ext W1 W4 := by
  refine ⟨_, rfl, World.cell?_setCell_same _ _ _ c3, by have := cell_lt c3; simpa using this, ?_, ?_⟩
  · refine hd.off (fun e => ?_) c3 (by intro x e; cases e) v
    subst e
    obtain ⟨g, rc, _, h1, _⟩ := hd.row 0 (by have := hd.ok.head.2.2.1; omega)
    rw [c3] at h1; cases h1
  · exact x3.setCell (p := ⟨y, 0, none⟩) hy v
theorem mB {W1 w3 : World} (v : Value) (u : TypeId) (x3 : Ext W1 w3) (hd : DocAt P w3 d c ws') :
    ∃ W4, w3.alloc (.cells #[v] u) = W4 ∧ W4.cell? ⟨w3.heap.size, 0, none⟩ = some v ∧ w3.heap.size < W4.heap.size ∧ DocAt P W4 d c ws' ∧ Ext W1 W4 :=
  ⟨_, rfl, cell_new1 _ _ _, by simp, hd.ext ((Ext.refl _).alloc _), x3.alloc _⟩
/-- A body of other words, made. -/
def DMade (P : Nat → Prop) (w : World) (lb fb mb lc fc mc cc : Nat) (ca : Option Addr) (c : Conf) (t : Nat) (ws' : List Int) (v : Value) (w' : World) : Prop :=
  ∃ d cap, v = .agg #[.slice (some ⟨d, 0, none⟩) c.ts.length cap, .int .i64 t, .slice (some ⟨lb, 0, none⟩) (nS c t) lc, .slice (some ⟨fb, 0, none⟩) (nG c t) fc, .slice (some ⟨mb, 0, none⟩) (nG c t) mc, .int .i64 (wordsOf c t), .slice ca c.cl.length cc] ∧ DBd P w' d lb fb mb ca c t ws' ∧ Ext w w'

set_option maxRecDepth 100000 in
set_option maxHeartbeats 8000000 in
theorem ref11_store {n j : Nat} (h : DBd P w d lb fb mb ca c t ws) (hP : ∀ k, P k → k < w.heap.size) (hn : n < nS c t) (hj : (j : Int) < bSz c t (n : Int)) (hx : 0 ≤ x ∧ x < 18446744073709551616) :
    Calls Tryz.prog 76 #[.agg #[.slice (some ⟨d, 0, none⟩) c.ts.length cap, .int .i64 t, .slice (some ⟨lb, 0, none⟩) (nS c t) lc, .slice (some ⟨fb, 0, none⟩) (nG c t) fc, .slice (some ⟨mb, 0, none⟩) (nG c t) mc, .int .i64 (wordsOf c t), .slice ca c.cl.length cc], .int .i64 n, .int .i64 j, .int .u64 x] w fun e w' => ∃ v, e = .returned v ∧ DMade P w lb fb mb lc fc mc cc ca c t (ws.set (bAt c t (n : Int) j) x) v w' := by
  obtain ⟨z, hz⟩ : ∃ z, w.heap.size = z := ⟨_, rfl⟩
  obtain ⟨W1, hW1, hB, hR, x1⟩ := bd2 w hz d lb fb mb lc fc mc cc cap ca c t
  have B := Lib.hid hB; have R := Lib.hid hR; have X := Lib.hid x1
  have H := Lib.hid ((h.two hz).ext x1)
  have PL : Hid (∀ k, P2 P z k → k < W1.heap.size) := Lib.hid fun k q => by
    have := hR.lt; have := x1.size
    rcases q with q | q | q
    · exact Nat.lt_of_lt_of_le (hP k q) x1.size
    · omega
    · omega
  have ZL := Lib.hid (show w.heap.size ≤ z + 1 by omega)
  have sb := slotB h.ko h.ti (bIn_of hn)
  have a64 := sb.is64 h.ko h.ti
  have s64 := sb.s64
  have L := Lib.hid (sb.store (ws := ws) h.ti hj x)
  have OK := Lib.hid (h.ok.set (bAt c t (n : Int) j) hx)
  obtain ⟨ws', hw'⟩ : ∃ ws', ws.set (bAt c t (n : Int) j) x = ws' := ⟨_, rfl⟩
  rw [hw'] at L OK ⊢
  obtain ⟨_, _, c2⟩ := (h.ext x1).slot hn
  obtain ⟨A, hA⟩ : ∃ A, bAd c t (n : Int) = A := ⟨_, rfl⟩
  rw [hA] at L c2 a64
  have wA : IntKind.i64.wrap (A + (j : Int)) = A + j := IntWalk.i64_in _ (by omega)
  have n0 : (0 : Int) ≤ (n : Int) := Int.natCast_nonneg _
  have n1 : (n : Int) < (nS c t : Int) := by omega
  have b0 := B.out.c 0 _ rfl; have b1 := B.out.c 1 _ rfl; have b2 := B.out.c 2 _ rfl
  have bz := B.out.lt
  clear h sb hj hA hB hR x1 a64 s64 hw' hP hx
  go_enter Tryz.func76, Tryz.ntmps76
  go_upto_region 1 with fail
  clear hW1 hz
  have yz : W1.heap.size ≠ z := by omega
  have yl : W1.heap.size ≠ lb := by have := H.out.plan.lt.1; omega
  go_region_held3 (fun w' => w'.cell? ⟨z, 0, none⟩ = some (.slice (some ⟨d, 0, none⟩) c.ts.length cap) ∧ w'.cell? ⟨z, 1, none⟩ = some (.int .i64 t) ∧ w'.cell? ⟨z, 2, none⟩ = some (.slice (some ⟨lb, 0, none⟩) (nS c t) lc) ∧ w'.cell? ⟨lb, n * 4 + 2, none⟩ = some (.int .i64 A))
    ((first | (go_split_ands; exact ⟨x3.cell (by assumption), x3.cell (by assumption), x3.cell (by assumption), x3.cell (by assumption)⟩) | (go_split_ands; exact ⟨cell_alloc (x3.cell (by assumption)) _, cell_alloc (x3.cell (by assumption)) _, cell_alloc (x3.cell (by assumption)) _, cell_alloc (x3.cell (by assumption)) _⟩) | (go_split_ands; with_reducible exact ⟨(cell_far _ _ _ _ yz).trans (by assumption), (cell_far _ _ _ _ yz).trans (by assumption), (cell_far _ _ _ _ yz).trans (by assumption), (cell_far _ _ _ _ yl).trans (by assumption)⟩) | go_keep))
    ((go_at_call 21; refine (ref07_Store (P := P2 P z) (H.out.doc.ext ?_) ?_ L.out).mono ?_; (repeat (first | with_reducible exact Ext.refl _ | with_reducible refine Ext.drew ?_ | with_reducible refine Ext.drewN ?_ _ | with_reducible refine Ext.alloc ?_ _)); (exact fun k q => Nat.lt_of_lt_of_le (PL.out k q) (Ext.size (by repeat (first | with_reducible exact Ext.refl _ | with_reducible refine Ext.drew ?_ | with_reducible refine Ext.drewN ?_ _ | with_reducible refine Ext.alloc ?_ _)))); rintro e w3 ⟨d2, cap2, rfl, hd, x3⟩; first | (have yy := box_up (box_new W1 (.slice none 0 0) 36 (b := W1.heap.size) rfl) x3; obtain ⟨y0, y1⟩ := yy) | (have yy := box_up (box_up (box_new W1 (.slice none 0 0) 36 (b := W1.heap.size) rfl) ((Ext.refl _).drew)) x3; obtain ⟨y0, y1⟩ := yy) | (have yy := box_up (box_up (box_new W1 (.slice none 0 0) 36 (b := W1.heap.size) rfl) ((Ext.refl _).drewN _)) x3; obtain ⟨y0, y1⟩ := yy) | skip))
  all_goals
    have x13 : Ext W1 w3 := Ext.trans (by repeat (first | with_reducible exact Ext.refl _ | with_reducible refine Ext.drew ?_ | with_reducible refine Ext.drewN ?_ _ | with_reducible refine Ext.alloc ?_ _)) x3
    have HD := Lib.hid hd; have HX := Lib.hid x13
    first
      | (obtain ⟨W4, hW4, m0, ml, hd4, x4⟩ := mA (.slice (some ⟨d2, 0, none⟩) c.ts.length cap2) HX.out (Nat.le_refl _) y0 HD.out; rw [hW4])
      | (obtain ⟨W4, hW4, m0, ml, hd4, x4⟩ := mB (.slice (some ⟨d2, 0, none⟩) c.ts.length cap2) 36 HX.out HD.out; rw [hW4])
    all_goals
      have D4 := H.out.turn hd4 x4 OK.out
      have X4 := X.out.trans x4
      have B4 := B.out.ext x4
      have R4 := R.out.ext x4
      clear hW4 hd x3 x13 hd4 x4 b0 b1 b2 c2
      try clear y0 y1
      have D4h := Lib.hid D4; have X4h := Lib.hid X4; have R4h := Lib.hid R4
      have b0 := B4.c 0 _ rfl; have b1 := B4.c 1 _ rfl; have b2 := B4.c 2 _ rfl; have b3 := B4.c 3 _ rfl; have b4 := B4.c 4 _ rfl; have b5 := B4.c 5 _ rfl; have b6 := B4.c 6 _ rfl
      have r0 := R4.c 0 _ rfl; have r1 := R4.c 1 _ rfl; have r2 := R4.c 2 _ rfl; have r3 := R4.c 3 _ rfl; have r4 := R4.c 4 _ rfl; have r5 := R4.c 5 _ rfl; have r6 := R4.c 6 _ rfl
      have f0 := R4.f 0; have f1 := R4.f 1; have f2 := R4.f 2; have f3 := R4.f 3; have f4 := R4.f 4; have f5 := R4.f 5; have f6 := R4.f 6
      have bz := B4.lt; have rl := R4.lt
      clear D4 X4 B4 R4
      go_wp2_with fail
      have D4 := D4h.out; have X4 := X4h.out; have R4 := R4h.out
      have RB := R4.set7 (.slice (some ⟨d2, 0, none⟩) c.ts.length cap2) (.int .i64 t) (.slice (some ⟨lb, 0, none⟩) (nS c t) lc) (.slice (some ⟨fb, 0, none⟩) (nG c t) fc) (.slice (some ⟨mb, 0, none⟩) (nG c t) mc) (.int .i64 (wordsOf c t)) (.slice ca c.cl.length cc)
      have q0 := RB.c 0 _ rfl; have q1 := RB.c 1 _ rfl; have q2 := RB.c 2 _ rfl; have q3 := RB.c 3 _ rfl; have q4 := RB.c 4 _ rfl; have q5 := RB.c 5 _ rfl; have q6 := RB.c 6 _ rfl
      have ch := chg7 W4 (z + 1) (.slice (some ⟨d2, 0, none⟩) c.ts.length cap2) (.int .i64 t) (.slice (some ⟨lb, 0, none⟩) (nS c t) lc) (.slice (some ⟨fb, 0, none⟩) (nG c t) fc) (.slice (some ⟨mb, 0, none⟩) (nG c t) mc) (.int .i64 (wordsOf c t)) (.slice ca c.cl.length cc)
      refine bodyPost_ret (v := .agg #[.slice (some ⟨d2, 0, none⟩) c.ts.length cap2, .int .i64 t, .slice (some ⟨lb, 0, none⟩) (nS c t) lc, .slice (some ⟨fb, 0, none⟩) (nG c t) fc, .slice (some ⟨mb, 0, none⟩) (nG c t) mc, .int .i64 (wordsOf c t), .slice ca c.cl.length cc]) (by simp [results, Tryz.results76, go_sem, q0, q1, q2, q3, q4, q5, q6]) rfl ⟨_, rfl, d2, cap2, rfl, (D4.chg ch fun k e => .inr (.inr e)).one, ch.over X4 fun k e => by subst e; exact ZL.out⟩

set_option maxRecDepth 100000 in
set_option maxHeartbeats 8000000 in
theorem ref11_Wipe (h : DBd P w d lb fb mb ca c t ws) (hP : ∀ k, P k → k < w.heap.size) (hr : bWipe c t ws s = (ws', k)) :
    Calls Tryz.prog 40 #[.agg #[.slice (some ⟨d, 0, none⟩) c.ts.length cap, .int .i64 t, .slice (some ⟨lb, 0, none⟩) (nS c t) lc, .slice (some ⟨fb, 0, none⟩) (nG c t) fc, .slice (some ⟨mb, 0, none⟩) (nG c t) mc, .int .i64 (wordsOf c t), .slice ca c.cl.length cc], .int .i64 s] w fun e w' => ∃ v, e = .returned (.tuple #[v, .int .i64 k]) ∧ DMade P w lb fb mb lc fc mc cc ca c t ws' v w' := by
  obtain ⟨z, hz⟩ : ∃ z, w.heap.size = z := ⟨_, rfl⟩
  obtain ⟨W1, hW1, hB, hR, x1⟩ := bd2 w hz d lb fb mb lc fc mc cc cap ca c t
  have B := Lib.hid hB; have R := Lib.hid hR; have X := Lib.hid x1
  have H := Lib.hid ((h.two hz).ext x1)
  have PL : Hid (∀ k, P2 P z k → k < W1.heap.size) := Lib.hid fun k q => by
    have := hR.lt; have := x1.size
    rcases q with q | q | q
    · exact Nat.lt_of_lt_of_le (hP k q) x1.size
    · omega
    · omega
  have ZL := Lib.hid (show w.heap.size ≤ z + 1 by omega)
  have OK := Lib.hid (show WOk ws' by have := bWipe_ok (s := s) h.ok h.len h.ko h.ti; rw [hr] at this; exact this)
  unfold bWipe at hr
  by_cases hi : bIn c t s
  · rw [if_pos hi] at hr
    have HH : Hid (∀ W : World, Calls Tryz.prog 22 #[.agg #[.slice (some ⟨lb, 0, none⟩) (nS c t) lc, .slice (some ⟨fb, 0, none⟩) (nG c t) fc, .slice (some ⟨mb, 0, none⟩) (nG c t) mc, .int .i64 (wordsOf c t), .slice ca c.cl.length cc], .int .i64 s] W fun e w' => e = .returned (.bool true) ∧ Ext W w') := Lib.hid fun W => by
      have q := ref09_Has (lb := lb) (lc := lc) (fb := fb) (fc := fc) (mb := mb) (mc := mc) (ca := ca) (cc := cc) (c := c) (t := t) (s := s) (w := W) true (by unfold bIn at hi; simpa using hi)
      unfold dpv at q
      exact q
    obtain ⟨n, rfl, hn⟩ := bIn_nat hi
    have sb := slotB h.ko h.ti hi
    have a64 := sb.is64 h.ko h.ti
    have s2 := sb.s2; have s64 := sb.s64
    have Z := sb.zero (ws := ws) h.ti
    have e1 : zeroL ws (bAt c t (n : Int) 0) (bSz c t (n : Int)).toNat = ws' := by injection hr
    obtain rfl : 0 = k := by injection hr
    rw [e1] at Z
    have SL := Lib.hid (fun (W : World) (q : DBd (P2 P z) W d lb fb mb ca c t ws) => (q.slot hn).2)
    obtain ⟨A, hA⟩ : ∃ A, bAd c t (n : Int) = A := ⟨_, rfl⟩
    obtain ⟨S, hS⟩ : ∃ S, bSz c t (n : Int) = S := ⟨_, rfl⟩
    rw [hA, hS] at Z SL
    rw [hA] at a64
    rw [hS] at s2 s64
    have L := Lib.hid Z
    have A64 := Lib.hid (show is64 A from ⟨a64.1, by omega⟩)
    have N64 := Lib.hid (show is64 S from ⟨by omega, by omega⟩)
    have n0 : (0 : Int) ≤ (n : Int) := Int.natCast_nonneg _
    have n1 : (n : Int) < (nS c t : Int) := by omega
    clear h sb hi hr hA hS e1 Z a64 s2 s64 hB hR x1 hP
    have b0 := B.out.c 0 _ rfl; have b1 := B.out.c 1 _ rfl; have b2 := B.out.c 2 _ rfl; have b3 := B.out.c 3 _ rfl; have b4 := B.out.c 4 _ rfl; have b5 := B.out.c 5 _ rfl; have b6 := B.out.c 6 _ rfl
    have bz := B.out.lt
    go_enter Tryz.func40, Tryz.ntmps40
    go_wp2_with fail
    clear hW1
    refine (HH.out _).mono ?_
    rintro e w2 ⟨rfl, x2⟩
    clear b0 b1 b2 b3 b4 b5 b6 bz
    replace H := Lib.hid (H.out.ext x2); replace X := Lib.hid (X.out.trans x2); replace B := Lib.hid (B.out.ext x2); replace R := Lib.hid (R.out.ext x2); replace PL := Lib.hid (fun k q => Nat.lt_of_lt_of_le (PL.out k q) x2.size)
    clear x2
    have zl := B.out.lt
    obtain ⟨W1', hW1'⟩ : ∃ W, w2 = W := ⟨_, rfl⟩
    subst hW1'
    have b0 := B.out.c 0 _ rfl; have b1 := B.out.c 1 _ rfl; have b2 := B.out.c 2 _ rfl
    obtain ⟨c1, c2⟩ := SL.out _ H.out
    have yz : w2.heap.size ≠ z := by omega
    have yl : w2.heap.size ≠ lb := by have := H.out.plan.lt.1; omega
    go_upto_region 3 with fail
    clear hz zl
    go_region_held3 (fun w' => w'.cell? ⟨z, 0, none⟩ = some (.slice (some ⟨d, 0, none⟩) c.ts.length cap) ∧ w'.cell? ⟨z, 1, none⟩ = some (.int .i64 t) ∧ w'.cell? ⟨z, 2, none⟩ = some (.slice (some ⟨lb, 0, none⟩) (nS c t) lc) ∧ w'.cell? ⟨lb, n * 4 + 1, none⟩ = some (.int .i64 S) ∧ w'.cell? ⟨lb, n * 4 + 2, none⟩ = some (.int .i64 A))
      ((first | (go_split_ands; exact ⟨x3.cell (by assumption), x3.cell (by assumption), x3.cell (by assumption), x3.cell (by assumption), x3.cell (by assumption)⟩) | (go_split_ands; exact ⟨cell_alloc (x3.cell (by assumption)) _, cell_alloc (x3.cell (by assumption)) _, cell_alloc (x3.cell (by assumption)) _, cell_alloc (x3.cell (by assumption)) _, cell_alloc (x3.cell (by assumption)) _⟩) | (go_split_ands; with_reducible exact ⟨(cell_far _ _ _ _ yz).trans (by assumption), (cell_far _ _ _ _ yz).trans (by assumption), (cell_far _ _ _ _ yz).trans (by assumption), (cell_far _ _ _ _ yl).trans (by assumption), (cell_far _ _ _ _ yl).trans (by assumption)⟩) | go_keep))
      ((go_at_call 78; refine (ref07_Zero (P := P2 P z) (H.out.doc.ext ?_) ?_ L.out A64.out N64.out).mono ?_; (repeat (first | with_reducible exact Ext.refl _ | with_reducible refine Ext.drew ?_ | with_reducible refine Ext.drewN ?_ _ | with_reducible refine Ext.alloc ?_ _)); (exact fun k q => Nat.lt_of_lt_of_le (PL.out k q) (Ext.size (by repeat (first | with_reducible exact Ext.refl _ | with_reducible refine Ext.drew ?_ | with_reducible refine Ext.drewN ?_ _ | with_reducible refine Ext.alloc ?_ _)))); rintro e w3 ⟨d2, cap2, rfl, hd, x3⟩; first | (have yy := box_up (box_new w2 (.slice none 0 0) 36 (b := w2.heap.size) rfl) x3; obtain ⟨y0, y1⟩ := yy) | (have yy := box_up (box_up (box_new w2 (.slice none 0 0) 36 (b := w2.heap.size) rfl) ((Ext.refl _).drew)) x3; obtain ⟨y0, y1⟩ := yy) | (have yy := box_up (box_up (box_new w2 (.slice none 0 0) 36 (b := w2.heap.size) rfl) ((Ext.refl _).drewN _)) x3; obtain ⟨y0, y1⟩ := yy) | skip))
    all_goals
      have x13 : Ext w2 w3 := Ext.trans (by repeat (first | with_reducible exact Ext.refl _ | with_reducible refine Ext.drew ?_ | with_reducible refine Ext.drewN ?_ _ | with_reducible refine Ext.alloc ?_ _)) x3
      have HD := Lib.hid hd; have HX := Lib.hid x13
      first
        | (obtain ⟨W4, hW4, m0, ml, hd4, x4⟩ := mA (.slice (some ⟨d2, 0, none⟩) c.ts.length cap2) HX.out (Nat.le_refl _) y0 HD.out; rw [hW4])
        | (obtain ⟨W4, hW4, m0, ml, hd4, x4⟩ := mB (.slice (some ⟨d2, 0, none⟩) c.ts.length cap2) 36 HX.out HD.out; rw [hW4])
      all_goals
        have D4 := H.out.turn hd4 x4 OK.out
        have X4 := X.out.trans x4
        have B4 := B.out.ext x4
        have R4 := R.out.ext x4
        clear hW4 hd x3 x13 hd4 x4 b0 b1 b2 c2 c1
        try clear y0 y1
        have D4h := Lib.hid D4; have X4h := Lib.hid X4; have R4h := Lib.hid R4
        have b0 := B4.c 0 _ rfl; have b1 := B4.c 1 _ rfl; have b2 := B4.c 2 _ rfl; have b3 := B4.c 3 _ rfl; have b4 := B4.c 4 _ rfl; have b5 := B4.c 5 _ rfl; have b6 := B4.c 6 _ rfl
        have r0 := R4.c 0 _ rfl; have r1 := R4.c 1 _ rfl; have r2 := R4.c 2 _ rfl; have r3 := R4.c 3 _ rfl; have r4 := R4.c 4 _ rfl; have r5 := R4.c 5 _ rfl; have r6 := R4.c 6 _ rfl
        have f0 := R4.f 0; have f1 := R4.f 1; have f2 := R4.f 2; have f3 := R4.f 3; have f4 := R4.f 4; have f5 := R4.f 5; have f6 := R4.f 6
        have bz := B4.lt; have rl := R4.lt
        clear D4 X4 B4 R4
        go_wp2_with fail
        have D4 := D4h.out; have X4 := X4h.out; have R4 := R4h.out
        have RB := R4.set7 (.slice (some ⟨d2, 0, none⟩) c.ts.length cap2) (.int .i64 t) (.slice (some ⟨lb, 0, none⟩) (nS c t) lc) (.slice (some ⟨fb, 0, none⟩) (nG c t) fc) (.slice (some ⟨mb, 0, none⟩) (nG c t) mc) (.int .i64 (wordsOf c t)) (.slice ca c.cl.length cc)
        have q0 := RB.c 0 _ rfl; have q1 := RB.c 1 _ rfl; have q2 := RB.c 2 _ rfl; have q3 := RB.c 3 _ rfl; have q4 := RB.c 4 _ rfl; have q5 := RB.c 5 _ rfl; have q6 := RB.c 6 _ rfl
        have ch := chg7 W4 (z + 1) (.slice (some ⟨d2, 0, none⟩) c.ts.length cap2) (.int .i64 t) (.slice (some ⟨lb, 0, none⟩) (nS c t) lc) (.slice (some ⟨fb, 0, none⟩) (nG c t) fc) (.slice (some ⟨mb, 0, none⟩) (nG c t) mc) (.int .i64 (wordsOf c t)) (.slice ca c.cl.length cc)
        refine bodyPost_ret (v := .tuple #[.agg #[.slice (some ⟨d2, 0, none⟩) c.ts.length cap2, .int .i64 t, .slice (some ⟨lb, 0, none⟩) (nS c t) lc, .slice (some ⟨fb, 0, none⟩) (nG c t) fc, .slice (some ⟨mb, 0, none⟩) (nG c t) mc, .int .i64 (wordsOf c t), .slice ca c.cl.length cc], .int .i64 0]) (by simp [results, Tryz.results40, go_sem, q0, q1, q2, q3, q4, q5, q6]) rfl ⟨_, rfl, d2, cap2, rfl, (D4.chg ch fun k e => .inr (.inr e)).one, ch.over X4 fun k e => by subst e; exact ZL.out⟩
  · rw [if_neg hi] at hr
    have HH : Hid (∀ W : World, Calls Tryz.prog 22 #[.agg #[.slice (some ⟨lb, 0, none⟩) (nS c t) lc, .slice (some ⟨fb, 0, none⟩) (nG c t) fc, .slice (some ⟨mb, 0, none⟩) (nG c t) mc, .int .i64 (wordsOf c t), .slice ca c.cl.length cc], .int .i64 s] W fun e w' => e = .returned (.bool false) ∧ Ext W w') := Lib.hid fun W => by
      have q := ref09_Has (lb := lb) (lc := lc) (fb := fb) (fc := fc) (mb := mb) (mc := mc) (ca := ca) (cc := cc) (c := c) (t := t) (s := s) (w := W) false (by unfold bIn at hi; simpa using hi)
      unfold dpv at q
      exact q
    obtain ⟨rfl, rfl⟩ : ws = ws' ∧ 2 = k := by injection hr with e1 e2; exact ⟨e1, e2⟩
    clear h hi hr hB hR x1 hP
    have b0 := B.out.c 0 _ rfl; have b1 := B.out.c 1 _ rfl; have b2 := B.out.c 2 _ rfl; have b3 := B.out.c 3 _ rfl; have b4 := B.out.c 4 _ rfl; have b5 := B.out.c 5 _ rfl; have b6 := B.out.c 6 _ rfl
    have bz := B.out.lt
    go_enter Tryz.func40, Tryz.ntmps40
    go_wp2_with fail
    clear hW1 hz
    refine (HH.out _).mono ?_
    rintro e w2 ⟨rfl, x2⟩
    clear b0 b1 b2 b3 b4 b5 b6 bz
    replace H := Lib.hid (H.out.ext x2); replace X := Lib.hid (X.out.trans x2); replace B := Lib.hid (B.out.ext x2); replace R := Lib.hid (R.out.ext x2); replace PL := Lib.hid (fun k q => Nat.lt_of_lt_of_le (PL.out k q) x2.size)
    clear x2
    have D4h := H; have X4h := X; have R4h := R
    have b0 := B.out.c 0 _ rfl; have b1 := B.out.c 1 _ rfl; have b2 := B.out.c 2 _ rfl; have b3 := B.out.c 3 _ rfl; have b4 := B.out.c 4 _ rfl; have b5 := B.out.c 5 _ rfl; have b6 := B.out.c 6 _ rfl
    have r0 := R.out.c 0 _ rfl; have r1 := R.out.c 1 _ rfl; have r2 := R.out.c 2 _ rfl; have r3 := R.out.c 3 _ rfl; have r4 := R.out.c 4 _ rfl; have r5 := R.out.c 5 _ rfl; have r6 := R.out.c 6 _ rfl
    have f0 := R.out.f 0; have f1 := R.out.f 1; have f2 := R.out.f 2; have f3 := R.out.f 3; have f4 := R.out.f 4; have f5 := R.out.f 5; have f6 := R.out.f 6
    have bz := B.out.lt; have rl := R.out.lt
    go_wp2_with fail
    have D4 := D4h.out; have X4 := X4h.out; have R4 := R4h.out
    have RB := R4.set7 (.slice (some ⟨d, 0, none⟩) c.ts.length cap) (.int .i64 t) (.slice (some ⟨lb, 0, none⟩) (nS c t) lc) (.slice (some ⟨fb, 0, none⟩) (nG c t) fc) (.slice (some ⟨mb, 0, none⟩) (nG c t) mc) (.int .i64 (wordsOf c t)) (.slice ca c.cl.length cc)
    have q0 := RB.c 0 _ rfl; have q1 := RB.c 1 _ rfl; have q2 := RB.c 2 _ rfl; have q3 := RB.c 3 _ rfl; have q4 := RB.c 4 _ rfl; have q5 := RB.c 5 _ rfl; have q6 := RB.c 6 _ rfl
    have ch := chg7 w2 (z + 1) (.slice (some ⟨d, 0, none⟩) c.ts.length cap) (.int .i64 t) (.slice (some ⟨lb, 0, none⟩) (nS c t) lc) (.slice (some ⟨fb, 0, none⟩) (nG c t) fc) (.slice (some ⟨mb, 0, none⟩) (nG c t) mc) (.int .i64 (wordsOf c t)) (.slice ca c.cl.length cc)
    refine bodyPost_ret (v := .tuple #[.agg #[.slice (some ⟨d, 0, none⟩) c.ts.length cap, .int .i64 t, .slice (some ⟨lb, 0, none⟩) (nS c t) lc, .slice (some ⟨fb, 0, none⟩) (nG c t) fc, .slice (some ⟨mb, 0, none⟩) (nG c t) mc, .int .i64 (wordsOf c t), .slice ca c.cl.length cc], .int .i64 2]) (by simp [results, Tryz.results40, go_sem, q0, q1, q2, q3, q4, q5, q6]) rfl ⟨_, rfl, d, cap, rfl, (D4.chg ch fun k e => .inr (.inr e)).one, ch.over X4 fun k e => by subst e; exact ZL.out⟩

theorem ref11_storeI {a : Int} {n j : Nat} (h : DBd P w d lb fb mb ca c t ws) (hP : ∀ k, P k → k < w.heap.size) (hn : n < nS c t) (hj : (j : Int) < bSz c t (n : Int)) (hx : 0 ≤ x ∧ x < 18446744073709551616) (ha : a = (j : Int)) (hw : ws.set (bAt c t (n : Int) j) x = ws') :
    Calls Tryz.prog 76 #[.agg #[.slice (some ⟨d, 0, none⟩) c.ts.length cap, .int .i64 t, .slice (some ⟨lb, 0, none⟩) (nS c t) lc, .slice (some ⟨fb, 0, none⟩) (nG c t) fc, .slice (some ⟨mb, 0, none⟩) (nG c t) mc, .int .i64 (wordsOf c t), .slice ca c.cl.length cc], .int .i64 n, .int .i64 a, .int .u64 x] w fun e w' => ∃ v, e = .returned v ∧ DMade P w lb fb mb lc fc mc cc ca c t ws' v w' := by
  subst ha hw; exact ref11_store h hP hn hj hx

set_option maxRecDepth 100000 in
set_option maxHeartbeats 8000000 in
theorem ref11_SetWord (h : DBd P w d lb fb mb ca c t ws) (hP : ∀ k, P k → k < w.heap.size) (hx64 : 0 ≤ x ∧ x < 18446744073709551616) (hr : bSetWord c t ws s i x = (ws', k)) :
    Calls Tryz.prog 37 #[.agg #[.slice (some ⟨d, 0, none⟩) c.ts.length cap, .int .i64 t, .slice (some ⟨lb, 0, none⟩) (nS c t) lc, .slice (some ⟨fb, 0, none⟩) (nG c t) fc, .slice (some ⟨mb, 0, none⟩) (nG c t) mc, .int .i64 (wordsOf c t), .slice ca c.cl.length cc], .int .i64 s, .int .i64 i, .int .u64 x] w fun e w' => ∃ v, e = .returned (.tuple #[v, .int .i64 k]) ∧ DMade P w lb fb mb lc fc mc cc ca c t ws' v w' := by
  obtain ⟨z, hz⟩ : ∃ z, w.heap.size = z := ⟨_, rfl⟩
  obtain ⟨W1, hW1, hB, hR, x1⟩ := bd2 w hz d lb fb mb lc fc mc cc cap ca c t
  have B := Lib.hid hB; have R := Lib.hid hR; have X := Lib.hid x1
  have H := Lib.hid ((h.two hz).ext x1)
  have PL : Hid (∀ k, P2 P z k → k < W1.heap.size) := Lib.hid fun k q => by
    have := hR.lt; have := x1.size
    rcases q with q | q | q
    · exact Nat.lt_of_lt_of_le (hP k q) x1.size
    · omega
    · omega
  have ZL := Lib.hid (show w.heap.size ≤ z + 1 by omega)
  have KO := Lib.hid h.ko; have TI := Lib.hid h.ti
  have HX := Lib.hid hx64
  obtain ⟨q, hq⟩ : ∃ q, bField c t ws s i false = q := ⟨_, rfl⟩
  have HQ := Lib.hid hq
  unfold bSetWord bStore at hr
  rw [hq] at hr
  clear h hq hB hR x1 hP hx64
  have b0 := B.out.c 0 _ rfl; have b1 := B.out.c 1 _ rfl; have b2 := B.out.c 2 _ rfl; have b3 := B.out.c 3 _ rfl; have b4 := B.out.c 4 _ rfl; have b5 := B.out.c 5 _ rfl; have b6 := B.out.c 6 _ rfl
  have bz := B.out.lt
  go_enter Tryz.func37, Tryz.ntmps37
  go_wp2_with fail
  clear hW1 hz
  refine (ref11_field false H.out HQ.out).mono ?_
  rintro e w3 ⟨rfl, x3⟩
  clear b0 b1 b2 b3 b4 b5 b6 bz
  replace H := Lib.hid (H.out.ext x3); replace X := Lib.hid (X.out.trans x3); replace B := Lib.hid (B.out.ext x3); replace R := Lib.hid (R.out.ext x3); replace PL := Lib.hid (fun k q => Nat.lt_of_lt_of_le (PL.out k q) x3.size)
  clear x3
  by_cases h0 : q = 0
  · subst h0
    rw [if_pos rfl] at hr
    obtain rfl : 0 = k := by injection hr
    have hr : ws.set (bAt c t s (1 + i.toNat)) x = ws' := by injection hr
    obtain ⟨hi, j, hji, hj⟩ := bField_in HQ.out
    obtain ⟨n, hsn, hn⟩ := bIn_nat hi
    subst hsn
    have HN := Lib.hid hn
    have HJ := Lib.hid (show ((1 + j : Nat) : Int) < bSz c t (n : Int) by omega)
    have HI := Lib.hid (show 1 + i = ((1 + j : Nat) : Int) by omega)
    have sb := slotB KO.out TI.out hi
    have s64 := sb.s64
    have i0 : 0 ≤ i := by omega
    have i1 : i < 64 := by omega
    have wi : IntKind.i64.wrap (1 + i) = 1 + i := IntWalk.i64_in _ (by omega)
    have wi' : IntKind.i64.wrap (i + 1) = i + 1 := IntWalk.i64_in _ (by omega)
    rw [show 1 + i.toNat = 1 + j by omega] at hr
    have HW := Lib.hid hr
    clear hi sb hj hji hn hr
    have b0 := B.out.c 0 _ rfl; have b1 := B.out.c 1 _ rfl; have b2 := B.out.c 2 _ rfl; have b3 := B.out.c 3 _ rfl; have b4 := B.out.c 4 _ rfl; have b5 := B.out.c 5 _ rfl; have b6 := B.out.c 6 _ rfl
    have bz := B.out.lt
    go_wp2_with fail
    clear b0 b1 b2 b3 b4 b5 b6 bz
    refine (ref11_storeI H.out PL.out HN.out HJ.out HX.out HI.out HW.out).mono ?_
    rintro e w4 ⟨v, rfl, d2, cap2, rfl, hd3, x3⟩
    have D4h := Lib.hid hd3; have X4h := Lib.hid (X.out.trans x3); have R4h := Lib.hid (R.out.ext x3)
    clear hd3
    have r0 := R4h.out.c 0 _ rfl; have r1 := R4h.out.c 1 _ rfl; have r2 := R4h.out.c 2 _ rfl; have r3 := R4h.out.c 3 _ rfl; have r4 := R4h.out.c 4 _ rfl; have r5 := R4h.out.c 5 _ rfl; have r6 := R4h.out.c 6 _ rfl
    have f0 := R4h.out.f 0; have f1 := R4h.out.f 1; have f2 := R4h.out.f 2; have f3 := R4h.out.f 3; have f4 := R4h.out.f 4; have f5 := R4h.out.f 5; have f6 := R4h.out.f 6
    have rl := R4h.out.lt
    go_wp2_with fail
    have D4 := D4h.out; have X4 := X4h.out; have R4 := R4h.out
    have RB := R4.set7 (.slice (some ⟨d2, 0, none⟩) c.ts.length cap2) (.int .i64 t) (.slice (some ⟨lb, 0, none⟩) (nS c t) lc) (.slice (some ⟨fb, 0, none⟩) (nG c t) fc) (.slice (some ⟨mb, 0, none⟩) (nG c t) mc) (.int .i64 (wordsOf c t)) (.slice ca c.cl.length cc)
    have q0 := RB.c 0 _ rfl; have q1 := RB.c 1 _ rfl; have q2 := RB.c 2 _ rfl; have q3 := RB.c 3 _ rfl; have q4 := RB.c 4 _ rfl; have q5 := RB.c 5 _ rfl; have q6 := RB.c 6 _ rfl
    have ch := chg7 w4 (z + 1) (.slice (some ⟨d2, 0, none⟩) c.ts.length cap2) (.int .i64 t) (.slice (some ⟨lb, 0, none⟩) (nS c t) lc) (.slice (some ⟨fb, 0, none⟩) (nG c t) fc) (.slice (some ⟨mb, 0, none⟩) (nG c t) mc) (.int .i64 (wordsOf c t)) (.slice ca c.cl.length cc)
    refine bodyPost_ret (v := .tuple #[.agg #[.slice (some ⟨d2, 0, none⟩) c.ts.length cap2, .int .i64 t, .slice (some ⟨lb, 0, none⟩) (nS c t) lc, .slice (some ⟨fb, 0, none⟩) (nG c t) fc, .slice (some ⟨mb, 0, none⟩) (nG c t) mc, .int .i64 (wordsOf c t), .slice ca c.cl.length cc], .int .i64 0]) (by simp [results, Tryz.results37, go_sem, q0, q1, q2, q3, q4, q5, q6]) rfl ⟨_, rfl, d2, cap2, rfl, (D4.chg ch fun k e => .inr (.inr e)).one, ch.over X4 fun k e => by subst e; exact ZL.out⟩
  · rw [if_neg h0] at hr
    obtain ⟨rfl, rfl⟩ : ws = ws' ∧ q = k := by injection hr with e1 e2; exact ⟨e1, e2⟩
    have tq : (q == 0) = false := by simpa using h0
    have D4h := H; have X4h := X; have R4h := R
    have b0 := B.out.c 0 _ rfl; have b1 := B.out.c 1 _ rfl; have b2 := B.out.c 2 _ rfl; have b3 := B.out.c 3 _ rfl; have b4 := B.out.c 4 _ rfl; have b5 := B.out.c 5 _ rfl; have b6 := B.out.c 6 _ rfl
    have r0 := R.out.c 0 _ rfl; have r1 := R.out.c 1 _ rfl; have r2 := R.out.c 2 _ rfl; have r3 := R.out.c 3 _ rfl; have r4 := R.out.c 4 _ rfl; have r5 := R.out.c 5 _ rfl; have r6 := R.out.c 6 _ rfl
    have f0 := R.out.f 0; have f1 := R.out.f 1; have f2 := R.out.f 2; have f3 := R.out.f 3; have f4 := R.out.f 4; have f5 := R.out.f 5; have f6 := R.out.f 6
    have bz := B.out.lt; have rl := R.out.lt
    go_wp2_with fail
    have D4 := D4h.out; have X4 := X4h.out; have R4 := R4h.out
    have RB := R4.set7 (.slice (some ⟨d, 0, none⟩) c.ts.length cap) (.int .i64 t) (.slice (some ⟨lb, 0, none⟩) (nS c t) lc) (.slice (some ⟨fb, 0, none⟩) (nG c t) fc) (.slice (some ⟨mb, 0, none⟩) (nG c t) mc) (.int .i64 (wordsOf c t)) (.slice ca c.cl.length cc)
    have q0 := RB.c 0 _ rfl; have q1 := RB.c 1 _ rfl; have q2 := RB.c 2 _ rfl; have q3 := RB.c 3 _ rfl; have q4 := RB.c 4 _ rfl; have q5 := RB.c 5 _ rfl; have q6 := RB.c 6 _ rfl
    have ch := chg7 w3 (z + 1) (.slice (some ⟨d, 0, none⟩) c.ts.length cap) (.int .i64 t) (.slice (some ⟨lb, 0, none⟩) (nS c t) lc) (.slice (some ⟨fb, 0, none⟩) (nG c t) fc) (.slice (some ⟨mb, 0, none⟩) (nG c t) mc) (.int .i64 (wordsOf c t)) (.slice ca c.cl.length cc)
    refine bodyPost_ret (v := .tuple #[.agg #[.slice (some ⟨d, 0, none⟩) c.ts.length cap, .int .i64 t, .slice (some ⟨lb, 0, none⟩) (nS c t) lc, .slice (some ⟨fb, 0, none⟩) (nG c t) fc, .slice (some ⟨mb, 0, none⟩) (nG c t) mc, .int .i64 (wordsOf c t), .slice ca c.cl.length cc], .int .i64 q]) (by simp [results, Tryz.results37, go_sem, q0, q1, q2, q3, q4, q5, q6]) rfl ⟨_, rfl, d, cap, rfl, (D4.chg ch fun k e => .inr (.inr e)).one, ch.over X4 fun k e => by subst e; exact ZL.out⟩

set_option maxRecDepth 100000 in
set_option maxHeartbeats 8000000 in
theorem ref11_SetRef {to : Int} (h : DBd P w d lb fb mb ca c t ws) (hP : ∀ k, P k → k < w.heap.size) (hr : bSetRef c t ws s i to = (ws', k)) :
    Calls Tryz.prog 36 #[.agg #[.slice (some ⟨d, 0, none⟩) c.ts.length cap, .int .i64 t, .slice (some ⟨lb, 0, none⟩) (nS c t) lc, .slice (some ⟨fb, 0, none⟩) (nG c t) fc, .slice (some ⟨mb, 0, none⟩) (nG c t) mc, .int .i64 (wordsOf c t), .slice ca c.cl.length cc], .int .i64 s, .int .i64 i, .int .i64 to] w fun e w' => ∃ v, e = .returned (.tuple #[v, .int .i64 k]) ∧ DMade P w lb fb mb lc fc mc cc ca c t ws' v w' := by
  obtain ⟨z, hz⟩ : ∃ z, w.heap.size = z := ⟨_, rfl⟩
  obtain ⟨W1, hW1, hB, hR, x1⟩ := bd2 w hz d lb fb mb lc fc mc cc cap ca c t
  have B := Lib.hid hB; have R := Lib.hid hR; have X := Lib.hid x1
  have H := Lib.hid ((h.two hz).ext x1)
  have PL : Hid (∀ k, P2 P z k → k < W1.heap.size) := Lib.hid fun k q => by
    have := hR.lt; have := x1.size
    rcases q with q | q | q
    · exact Nat.lt_of_lt_of_le (hP k q) x1.size
    · omega
    · omega
  have ZL := Lib.hid (show w.heap.size ≤ z + 1 by omega)
  have KO := Lib.hid h.ko; have TI := Lib.hid h.ti
  have nl := h.ko.nS_le h.ti
  unfold bSetRef at hr
  by_cases hi : bIn c t s
  · by_cases ht : -1 ≤ to ∧ to < (nS c t : Int)
    · rw [if_pos ⟨hi, ht⟩] at hr
      have HH : Hid (∀ W : World, Calls Tryz.prog 22 #[.agg #[.slice (some ⟨lb, 0, none⟩) (nS c t) lc, .slice (some ⟨fb, 0, none⟩) (nG c t) fc, .slice (some ⟨mb, 0, none⟩) (nG c t) mc, .int .i64 (wordsOf c t), .slice ca c.cl.length cc], .int .i64 s] W fun e w' => e = .returned (.bool true) ∧ Ext W w') := Lib.hid fun W => by
        have q := ref09_Has (lb := lb) (lc := lc) (fb := fb) (fc := fc) (mb := mb) (mc := mc) (ca := ca) (cc := cc) (c := c) (t := t) (s := s) (w := W) true (by unfold bIn at hi; simpa using hi)
        unfold dpv at q
        exact q
      obtain ⟨q, hq⟩ : ∃ q, bField c t ws s i true = q := ⟨_, rfl⟩
      have HQ := Lib.hid hq
      unfold bStore at hr
      rw [hq] at hr
      obtain ⟨t0, t1⟩ := ht
      have wt : IntKind.i64.wrap (to + 1) = to + 1 := IntWalk.i64_in _ (by omega)
      have wu : IntKind.u64.wrap (to + 1) = to + 1 := IntWalk.u64_in _ (by omega)
      have e0 : decide (to < -1) = false := decide_eq_false (by omega)
      have e1 : decide ((nS c t : Int) ≤ to) = false := decide_eq_false (by omega)
      have HX := Lib.hid (show 0 ≤ to + 1 ∧ to + 1 < 18446744073709551616 by omega)
      clear h hq hB hR x1 hP hi t0 t1
      have b0 := B.out.c 0 _ rfl; have b1 := B.out.c 1 _ rfl; have b2 := B.out.c 2 _ rfl; have b3 := B.out.c 3 _ rfl; have b4 := B.out.c 4 _ rfl; have b5 := B.out.c 5 _ rfl; have b6 := B.out.c 6 _ rfl
      have bz := B.out.lt
      go_enter Tryz.func36, Tryz.ntmps36
      go_wp2_with fail
      clear hW1 hz
      refine (HH.out _).mono ?_
      rintro e w2 ⟨rfl, x2⟩
      clear b0 b1 b2 b3 b4 b5 b6 bz
      replace H := Lib.hid (H.out.ext x2); replace X := Lib.hid (X.out.trans x2); replace B := Lib.hid (B.out.ext x2); replace R := Lib.hid (R.out.ext x2); replace PL := Lib.hid (fun k q => Nat.lt_of_lt_of_le (PL.out k q) x2.size)
      clear x2
      have b0 := B.out.c 0 _ rfl; have b1 := B.out.c 1 _ rfl; have b2 := B.out.c 2 _ rfl; have b3 := B.out.c 3 _ rfl; have b4 := B.out.c 4 _ rfl; have b5 := B.out.c 5 _ rfl; have b6 := B.out.c 6 _ rfl
      have bz := B.out.lt
      go_wp2_with fail
      clear e0 e1
      refine (ref11_field true H.out HQ.out).mono ?_
      rintro e w3 ⟨rfl, x3⟩
      clear b0 b1 b2 b3 b4 b5 b6 bz
      replace H := Lib.hid (H.out.ext x3); replace X := Lib.hid (X.out.trans x3); replace B := Lib.hid (B.out.ext x3); replace R := Lib.hid (R.out.ext x3); replace PL := Lib.hid (fun k q => Nat.lt_of_lt_of_le (PL.out k q) x3.size)
      clear x3
      by_cases h0 : q = 0
      · subst h0
        rw [if_pos rfl] at hr
        obtain rfl : 0 = k := by injection hr
        have hr : ws.set (bAt c t s (1 + i.toNat)) (to + 1) = ws' := by injection hr
        obtain ⟨hi, j, hji, hj⟩ := bField_in HQ.out
        obtain ⟨n, hsn, hn⟩ := bIn_nat hi
        subst hsn
        have HN := Lib.hid hn
        have HJ := Lib.hid (show ((1 + j : Nat) : Int) < bSz c t (n : Int) by omega)
        have HI := Lib.hid (show 1 + i = ((1 + j : Nat) : Int) by omega)
        have sb := slotB KO.out TI.out hi
        have s64 := sb.s64
        have i0 : 0 ≤ i := by omega
        have i1 : i < 64 := by omega
        have wi : IntKind.i64.wrap (1 + i) = 1 + i := IntWalk.i64_in _ (by omega)
        have wi' : IntKind.i64.wrap (i + 1) = i + 1 := IntWalk.i64_in _ (by omega)
        rw [show 1 + i.toNat = 1 + j by omega] at hr
        have HW := Lib.hid hr
        clear hi sb hj hji hn hr
        have b0 := B.out.c 0 _ rfl; have b1 := B.out.c 1 _ rfl; have b2 := B.out.c 2 _ rfl; have b3 := B.out.c 3 _ rfl; have b4 := B.out.c 4 _ rfl; have b5 := B.out.c 5 _ rfl; have b6 := B.out.c 6 _ rfl
        have bz := B.out.lt
        go_wp2_with fail
        clear b0 b1 b2 b3 b4 b5 b6 bz
        refine (ref11_storeI H.out PL.out HN.out HJ.out HX.out HI.out HW.out).mono ?_
        rintro e w4 ⟨v, rfl, d2, cap2, rfl, hd3, x3⟩
        have D4h := Lib.hid hd3; have X4h := Lib.hid (X.out.trans x3); have R4h := Lib.hid (R.out.ext x3)
        clear hd3
        have r0 := R4h.out.c 0 _ rfl; have r1 := R4h.out.c 1 _ rfl; have r2 := R4h.out.c 2 _ rfl; have r3 := R4h.out.c 3 _ rfl; have r4 := R4h.out.c 4 _ rfl; have r5 := R4h.out.c 5 _ rfl; have r6 := R4h.out.c 6 _ rfl
        have f0 := R4h.out.f 0; have f1 := R4h.out.f 1; have f2 := R4h.out.f 2; have f3 := R4h.out.f 3; have f4 := R4h.out.f 4; have f5 := R4h.out.f 5; have f6 := R4h.out.f 6
        have rl := R4h.out.lt
        go_wp2_with fail
        have D4 := D4h.out; have X4 := X4h.out; have R4 := R4h.out
        have RB := R4.set7 (.slice (some ⟨d2, 0, none⟩) c.ts.length cap2) (.int .i64 t) (.slice (some ⟨lb, 0, none⟩) (nS c t) lc) (.slice (some ⟨fb, 0, none⟩) (nG c t) fc) (.slice (some ⟨mb, 0, none⟩) (nG c t) mc) (.int .i64 (wordsOf c t)) (.slice ca c.cl.length cc)
        have q0 := RB.c 0 _ rfl; have q1 := RB.c 1 _ rfl; have q2 := RB.c 2 _ rfl; have q3 := RB.c 3 _ rfl; have q4 := RB.c 4 _ rfl; have q5 := RB.c 5 _ rfl; have q6 := RB.c 6 _ rfl
        have ch := chg7 w4 (z + 1) (.slice (some ⟨d2, 0, none⟩) c.ts.length cap2) (.int .i64 t) (.slice (some ⟨lb, 0, none⟩) (nS c t) lc) (.slice (some ⟨fb, 0, none⟩) (nG c t) fc) (.slice (some ⟨mb, 0, none⟩) (nG c t) mc) (.int .i64 (wordsOf c t)) (.slice ca c.cl.length cc)
        refine bodyPost_ret (v := .tuple #[.agg #[.slice (some ⟨d2, 0, none⟩) c.ts.length cap2, .int .i64 t, .slice (some ⟨lb, 0, none⟩) (nS c t) lc, .slice (some ⟨fb, 0, none⟩) (nG c t) fc, .slice (some ⟨mb, 0, none⟩) (nG c t) mc, .int .i64 (wordsOf c t), .slice ca c.cl.length cc], .int .i64 0]) (by simp [results, Tryz.results36, go_sem, q0, q1, q2, q3, q4, q5, q6]) rfl ⟨_, rfl, d2, cap2, rfl, (D4.chg ch fun k e => .inr (.inr e)).one, ch.over X4 fun k e => by subst e; exact ZL.out⟩
      · rw [if_neg h0] at hr
        obtain ⟨rfl, rfl⟩ : ws = ws' ∧ q = k := by injection hr with e1 e2; exact ⟨e1, e2⟩
        have tq : (q == 0) = false := by simpa using h0
        have D4h := H; have X4h := X; have R4h := R
        have b0 := B.out.c 0 _ rfl; have b1 := B.out.c 1 _ rfl; have b2 := B.out.c 2 _ rfl; have b3 := B.out.c 3 _ rfl; have b4 := B.out.c 4 _ rfl; have b5 := B.out.c 5 _ rfl; have b6 := B.out.c 6 _ rfl
        have r0 := R.out.c 0 _ rfl; have r1 := R.out.c 1 _ rfl; have r2 := R.out.c 2 _ rfl; have r3 := R.out.c 3 _ rfl; have r4 := R.out.c 4 _ rfl; have r5 := R.out.c 5 _ rfl; have r6 := R.out.c 6 _ rfl
        have f0 := R.out.f 0; have f1 := R.out.f 1; have f2 := R.out.f 2; have f3 := R.out.f 3; have f4 := R.out.f 4; have f5 := R.out.f 5; have f6 := R.out.f 6
        have bz := B.out.lt; have rl := R.out.lt
        go_wp2_with fail
        have D4 := D4h.out; have X4 := X4h.out; have R4 := R4h.out
        have RB := R4.set7 (.slice (some ⟨d, 0, none⟩) c.ts.length cap) (.int .i64 t) (.slice (some ⟨lb, 0, none⟩) (nS c t) lc) (.slice (some ⟨fb, 0, none⟩) (nG c t) fc) (.slice (some ⟨mb, 0, none⟩) (nG c t) mc) (.int .i64 (wordsOf c t)) (.slice ca c.cl.length cc)
        have q0 := RB.c 0 _ rfl; have q1 := RB.c 1 _ rfl; have q2 := RB.c 2 _ rfl; have q3 := RB.c 3 _ rfl; have q4 := RB.c 4 _ rfl; have q5 := RB.c 5 _ rfl; have q6 := RB.c 6 _ rfl
        have ch := chg7 w3 (z + 1) (.slice (some ⟨d, 0, none⟩) c.ts.length cap) (.int .i64 t) (.slice (some ⟨lb, 0, none⟩) (nS c t) lc) (.slice (some ⟨fb, 0, none⟩) (nG c t) fc) (.slice (some ⟨mb, 0, none⟩) (nG c t) mc) (.int .i64 (wordsOf c t)) (.slice ca c.cl.length cc)
        refine bodyPost_ret (v := .tuple #[.agg #[.slice (some ⟨d, 0, none⟩) c.ts.length cap, .int .i64 t, .slice (some ⟨lb, 0, none⟩) (nS c t) lc, .slice (some ⟨fb, 0, none⟩) (nG c t) fc, .slice (some ⟨mb, 0, none⟩) (nG c t) mc, .int .i64 (wordsOf c t), .slice ca c.cl.length cc], .int .i64 q]) (by simp [results, Tryz.results36, go_sem, q0, q1, q2, q3, q4, q5, q6]) rfl ⟨_, rfl, d, cap, rfl, (D4.chg ch fun k e => .inr (.inr e)).one, ch.over X4 fun k e => by subst e; exact ZL.out⟩
    · rw [if_neg (fun q => ht q.2)] at hr
      obtain ⟨rfl, rfl⟩ : ws = ws' ∧ 2 = k := by injection hr with e1 e2; exact ⟨e1, e2⟩
      have HH : Hid (∀ W : World, Calls Tryz.prog 22 #[.agg #[.slice (some ⟨lb, 0, none⟩) (nS c t) lc, .slice (some ⟨fb, 0, none⟩) (nG c t) fc, .slice (some ⟨mb, 0, none⟩) (nG c t) mc, .int .i64 (wordsOf c t), .slice ca c.cl.length cc], .int .i64 s] W fun e w' => e = .returned (.bool true) ∧ Ext W w') := Lib.hid fun W => by
        have q := ref09_Has (lb := lb) (lc := lc) (fb := fb) (fc := fc) (mb := mb) (mc := mc) (ca := ca) (cc := cc) (c := c) (t := t) (s := s) (w := W) true (by unfold bIn at hi; simpa using hi)
        unfold dpv at q
        exact q
      clear h hr hB hR x1 hP hi
      by_cases h1 : to < -1
      · have e0 : decide (to < -1) = true := decide_eq_true h1
        clear ht
        have b0 := B.out.c 0 _ rfl; have b1 := B.out.c 1 _ rfl; have b2 := B.out.c 2 _ rfl; have b3 := B.out.c 3 _ rfl; have b4 := B.out.c 4 _ rfl; have b5 := B.out.c 5 _ rfl; have b6 := B.out.c 6 _ rfl
        have bz := B.out.lt
        go_enter Tryz.func36, Tryz.ntmps36
        go_wp2_with fail
        clear hW1 hz
        refine (HH.out _).mono ?_
        rintro e w2 ⟨rfl, x2⟩
        clear b0 b1 b2 b3 b4 b5 b6 bz
        replace H := Lib.hid (H.out.ext x2); replace X := Lib.hid (X.out.trans x2); replace B := Lib.hid (B.out.ext x2); replace R := Lib.hid (R.out.ext x2); replace PL := Lib.hid (fun k q => Nat.lt_of_lt_of_le (PL.out k q) x2.size)
        clear x2
        have D4h := H; have X4h := X; have R4h := R
        have b0 := B.out.c 0 _ rfl; have b1 := B.out.c 1 _ rfl; have b2 := B.out.c 2 _ rfl; have b3 := B.out.c 3 _ rfl; have b4 := B.out.c 4 _ rfl; have b5 := B.out.c 5 _ rfl; have b6 := B.out.c 6 _ rfl
        have r0 := R.out.c 0 _ rfl; have r1 := R.out.c 1 _ rfl; have r2 := R.out.c 2 _ rfl; have r3 := R.out.c 3 _ rfl; have r4 := R.out.c 4 _ rfl; have r5 := R.out.c 5 _ rfl; have r6 := R.out.c 6 _ rfl
        have f0 := R.out.f 0; have f1 := R.out.f 1; have f2 := R.out.f 2; have f3 := R.out.f 3; have f4 := R.out.f 4; have f5 := R.out.f 5; have f6 := R.out.f 6
        have bz := B.out.lt; have rl := R.out.lt
        go_wp2_with fail
        have D4 := D4h.out; have X4 := X4h.out; have R4 := R4h.out
        have RB := R4.set7 (.slice (some ⟨d, 0, none⟩) c.ts.length cap) (.int .i64 t) (.slice (some ⟨lb, 0, none⟩) (nS c t) lc) (.slice (some ⟨fb, 0, none⟩) (nG c t) fc) (.slice (some ⟨mb, 0, none⟩) (nG c t) mc) (.int .i64 (wordsOf c t)) (.slice ca c.cl.length cc)
        have q0 := RB.c 0 _ rfl; have q1 := RB.c 1 _ rfl; have q2 := RB.c 2 _ rfl; have q3 := RB.c 3 _ rfl; have q4 := RB.c 4 _ rfl; have q5 := RB.c 5 _ rfl; have q6 := RB.c 6 _ rfl
        have ch := chg7 w2 (z + 1) (.slice (some ⟨d, 0, none⟩) c.ts.length cap) (.int .i64 t) (.slice (some ⟨lb, 0, none⟩) (nS c t) lc) (.slice (some ⟨fb, 0, none⟩) (nG c t) fc) (.slice (some ⟨mb, 0, none⟩) (nG c t) mc) (.int .i64 (wordsOf c t)) (.slice ca c.cl.length cc)
        refine bodyPost_ret (v := .tuple #[.agg #[.slice (some ⟨d, 0, none⟩) c.ts.length cap, .int .i64 t, .slice (some ⟨lb, 0, none⟩) (nS c t) lc, .slice (some ⟨fb, 0, none⟩) (nG c t) fc, .slice (some ⟨mb, 0, none⟩) (nG c t) mc, .int .i64 (wordsOf c t), .slice ca c.cl.length cc], .int .i64 2]) (by simp [results, Tryz.results36, go_sem, q0, q1, q2, q3, q4, q5, q6]) rfl ⟨_, rfl, d, cap, rfl, (D4.chg ch fun k e => .inr (.inr e)).one, ch.over X4 fun k e => by subst e; exact ZL.out⟩
      · have e0 : decide (to < -1) = false := decide_eq_false h1
        have e1 : decide ((nS c t : Int) ≤ to) = true := decide_eq_true (by omega)
        clear ht
        have b0 := B.out.c 0 _ rfl; have b1 := B.out.c 1 _ rfl; have b2 := B.out.c 2 _ rfl; have b3 := B.out.c 3 _ rfl; have b4 := B.out.c 4 _ rfl; have b5 := B.out.c 5 _ rfl; have b6 := B.out.c 6 _ rfl
        have bz := B.out.lt
        go_enter Tryz.func36, Tryz.ntmps36
        go_wp2_with fail
        clear hW1 hz
        refine (HH.out _).mono ?_
        rintro e w2 ⟨rfl, x2⟩
        clear b0 b1 b2 b3 b4 b5 b6 bz
        replace H := Lib.hid (H.out.ext x2); replace X := Lib.hid (X.out.trans x2); replace B := Lib.hid (B.out.ext x2); replace R := Lib.hid (R.out.ext x2); replace PL := Lib.hid (fun k q => Nat.lt_of_lt_of_le (PL.out k q) x2.size)
        clear x2
        have D4h := H; have X4h := X; have R4h := R
        have b0 := B.out.c 0 _ rfl; have b1 := B.out.c 1 _ rfl; have b2 := B.out.c 2 _ rfl; have b3 := B.out.c 3 _ rfl; have b4 := B.out.c 4 _ rfl; have b5 := B.out.c 5 _ rfl; have b6 := B.out.c 6 _ rfl
        have r0 := R.out.c 0 _ rfl; have r1 := R.out.c 1 _ rfl; have r2 := R.out.c 2 _ rfl; have r3 := R.out.c 3 _ rfl; have r4 := R.out.c 4 _ rfl; have r5 := R.out.c 5 _ rfl; have r6 := R.out.c 6 _ rfl
        have f0 := R.out.f 0; have f1 := R.out.f 1; have f2 := R.out.f 2; have f3 := R.out.f 3; have f4 := R.out.f 4; have f5 := R.out.f 5; have f6 := R.out.f 6
        have bz := B.out.lt; have rl := R.out.lt
        go_wp2_with fail
        have D4 := D4h.out; have X4 := X4h.out; have R4 := R4h.out
        have RB := R4.set7 (.slice (some ⟨d, 0, none⟩) c.ts.length cap) (.int .i64 t) (.slice (some ⟨lb, 0, none⟩) (nS c t) lc) (.slice (some ⟨fb, 0, none⟩) (nG c t) fc) (.slice (some ⟨mb, 0, none⟩) (nG c t) mc) (.int .i64 (wordsOf c t)) (.slice ca c.cl.length cc)
        have q0 := RB.c 0 _ rfl; have q1 := RB.c 1 _ rfl; have q2 := RB.c 2 _ rfl; have q3 := RB.c 3 _ rfl; have q4 := RB.c 4 _ rfl; have q5 := RB.c 5 _ rfl; have q6 := RB.c 6 _ rfl
        have ch := chg7 w2 (z + 1) (.slice (some ⟨d, 0, none⟩) c.ts.length cap) (.int .i64 t) (.slice (some ⟨lb, 0, none⟩) (nS c t) lc) (.slice (some ⟨fb, 0, none⟩) (nG c t) fc) (.slice (some ⟨mb, 0, none⟩) (nG c t) mc) (.int .i64 (wordsOf c t)) (.slice ca c.cl.length cc)
        refine bodyPost_ret (v := .tuple #[.agg #[.slice (some ⟨d, 0, none⟩) c.ts.length cap, .int .i64 t, .slice (some ⟨lb, 0, none⟩) (nS c t) lc, .slice (some ⟨fb, 0, none⟩) (nG c t) fc, .slice (some ⟨mb, 0, none⟩) (nG c t) mc, .int .i64 (wordsOf c t), .slice ca c.cl.length cc], .int .i64 2]) (by simp [results, Tryz.results36, go_sem, q0, q1, q2, q3, q4, q5, q6]) rfl ⟨_, rfl, d, cap, rfl, (D4.chg ch fun k e => .inr (.inr e)).one, ch.over X4 fun k e => by subst e; exact ZL.out⟩
  · rw [if_neg (fun q => hi q.1)] at hr
    obtain ⟨rfl, rfl⟩ : ws = ws' ∧ 2 = k := by injection hr with e1 e2; exact ⟨e1, e2⟩
    have HH : Hid (∀ W : World, Calls Tryz.prog 22 #[.agg #[.slice (some ⟨lb, 0, none⟩) (nS c t) lc, .slice (some ⟨fb, 0, none⟩) (nG c t) fc, .slice (some ⟨mb, 0, none⟩) (nG c t) mc, .int .i64 (wordsOf c t), .slice ca c.cl.length cc], .int .i64 s] W fun e w' => e = .returned (.bool false) ∧ Ext W w') := Lib.hid fun W => by
      have q := ref09_Has (lb := lb) (lc := lc) (fb := fb) (fc := fc) (mb := mb) (mc := mc) (ca := ca) (cc := cc) (c := c) (t := t) (s := s) (w := W) false (by unfold bIn at hi; simpa using hi)
      unfold dpv at q
      exact q
    clear h hr hB hR x1 hP hi
    have b0 := B.out.c 0 _ rfl; have b1 := B.out.c 1 _ rfl; have b2 := B.out.c 2 _ rfl; have b3 := B.out.c 3 _ rfl; have b4 := B.out.c 4 _ rfl; have b5 := B.out.c 5 _ rfl; have b6 := B.out.c 6 _ rfl
    have bz := B.out.lt
    go_enter Tryz.func36, Tryz.ntmps36
    go_wp2_with fail
    clear hW1 hz
    refine (HH.out _).mono ?_
    rintro e w2 ⟨rfl, x2⟩
    clear b0 b1 b2 b3 b4 b5 b6 bz
    replace H := Lib.hid (H.out.ext x2); replace X := Lib.hid (X.out.trans x2); replace B := Lib.hid (B.out.ext x2); replace R := Lib.hid (R.out.ext x2); replace PL := Lib.hid (fun k q => Nat.lt_of_lt_of_le (PL.out k q) x2.size)
    clear x2
    have D4h := H; have X4h := X; have R4h := R
    have b0 := B.out.c 0 _ rfl; have b1 := B.out.c 1 _ rfl; have b2 := B.out.c 2 _ rfl; have b3 := B.out.c 3 _ rfl; have b4 := B.out.c 4 _ rfl; have b5 := B.out.c 5 _ rfl; have b6 := B.out.c 6 _ rfl
    have r0 := R.out.c 0 _ rfl; have r1 := R.out.c 1 _ rfl; have r2 := R.out.c 2 _ rfl; have r3 := R.out.c 3 _ rfl; have r4 := R.out.c 4 _ rfl; have r5 := R.out.c 5 _ rfl; have r6 := R.out.c 6 _ rfl
    have f0 := R.out.f 0; have f1 := R.out.f 1; have f2 := R.out.f 2; have f3 := R.out.f 3; have f4 := R.out.f 4; have f5 := R.out.f 5; have f6 := R.out.f 6
    have bz := B.out.lt; have rl := R.out.lt
    go_wp2_with fail
    have D4 := D4h.out; have X4 := X4h.out; have R4 := R4h.out
    have RB := R4.set7 (.slice (some ⟨d, 0, none⟩) c.ts.length cap) (.int .i64 t) (.slice (some ⟨lb, 0, none⟩) (nS c t) lc) (.slice (some ⟨fb, 0, none⟩) (nG c t) fc) (.slice (some ⟨mb, 0, none⟩) (nG c t) mc) (.int .i64 (wordsOf c t)) (.slice ca c.cl.length cc)
    have q0 := RB.c 0 _ rfl; have q1 := RB.c 1 _ rfl; have q2 := RB.c 2 _ rfl; have q3 := RB.c 3 _ rfl; have q4 := RB.c 4 _ rfl; have q5 := RB.c 5 _ rfl; have q6 := RB.c 6 _ rfl
    have ch := chg7 w2 (z + 1) (.slice (some ⟨d, 0, none⟩) c.ts.length cap) (.int .i64 t) (.slice (some ⟨lb, 0, none⟩) (nS c t) lc) (.slice (some ⟨fb, 0, none⟩) (nG c t) fc) (.slice (some ⟨mb, 0, none⟩) (nG c t) mc) (.int .i64 (wordsOf c t)) (.slice ca c.cl.length cc)
    refine bodyPost_ret (v := .tuple #[.agg #[.slice (some ⟨d, 0, none⟩) c.ts.length cap, .int .i64 t, .slice (some ⟨lb, 0, none⟩) (nS c t) lc, .slice (some ⟨fb, 0, none⟩) (nG c t) fc, .slice (some ⟨mb, 0, none⟩) (nG c t) mc, .int .i64 (wordsOf c t), .slice ca c.cl.length cc], .int .i64 2]) (by simp [results, Tryz.results36, go_sem, q0, q1, q2, q3, q4, q5, q6]) rfl ⟨_, rfl, d, cap, rfl, (D4.chg ch fun k e => .inr (.inr e)).one, ch.over X4 fun k e => by subst e; exact ZL.out⟩

/-- A body's box, a head's, another body's lie behind what there was. -/
def P3 (P : Nat → Prop) (z k : Nat) : Prop := P k ∨ k = z ∨ k = z + 1 ∨ k = z + 2
theorem DBd.three {z : Nat} (h : DBd P w d lb fb mb ca c t ws) (hz : w.heap.size = z) : DBd (P3 P z) w d lb fb mb ca c t ws :=
  h.swap fun k hk q => by rcases q with q | q | q | q; exact q; all_goals omega
theorem DBd.one3 {z : Nat} (h : DBd (P3 P z) w d lb fb mb ca c t ws) : DBd P w d lb fb mb ca c t ws := h.swap fun _ _ q => .inl q
theorem bd3 (w : World) {z : Nat} (hz : w.heap.size = z) (d lb fb mb lc fc mc cc cap : Nat) (ca : Option Addr) (c : Conf) (t : Nat) (g : Hd) :
    ∃ W, ((w.alloc (.cells #[.slice (some ⟨d, 0, none⟩) c.ts.length cap, .int .i64 t, .slice (some ⟨lb, 0, none⟩) (nS c t) lc, .slice (some ⟨fb, 0, none⟩) (nG c t) fc, .slice (some ⟨mb, 0, none⟩) (nG c t) mc, .int .i64 (wordsOf c t), .slice ca c.cl.length cc] 41)).alloc (.cells #[.int .i64 g.c, .int .i64 g.r, .int .i64 g.w] 29)).alloc (.cells #[.slice none 0 0, .int .i64 0, .slice none 0 0, .slice none 0 0, .slice none 0 0, .int .i64 0, .slice none 0 0] 41) = W ∧ BoxG W z [.slice (some ⟨d, 0, none⟩) c.ts.length cap, .int .i64 t, .slice (some ⟨lb, 0, none⟩) (nS c t) lc, .slice (some ⟨fb, 0, none⟩) (nG c t) fc, .slice (some ⟨mb, 0, none⟩) (nG c t) mc, .int .i64 (wordsOf c t), .slice ca c.cl.length cc] ∧ BoxG W (z + 1) [.int .i64 g.c, .int .i64 g.r, .int .i64 g.w] ∧ BoxG W (z + 2) [.slice none 0 0, .int .i64 0, .slice none 0 0, .slice none 0 0, .slice none 0 0, .int .i64 0, .slice none 0 0] ∧ Ext w W :=
  ⟨_, rfl, (BoxG.new w _ _ hz).ext (((Ext.refl _).alloc _).alloc _), (BoxG.new (w.alloc _) _ _ (by simp [hz])).ext ((Ext.refl _).alloc _), BoxG.new _ _ _ (by simp [hz]), (((Ext.refl w).alloc _).alloc _).alloc _⟩

set_option maxRecDepth 100000 in
set_option maxHeartbeats 8000000 in
theorem ref11_Make (hd : Hd) (h : DBd P w d lb fb mb ca c t ws) (hP : ∀ k, P k → k < w.heap.size) (hr : bMake c t ws s hd = (ws', k)) :
    Calls Tryz.prog 41 #[.agg #[.slice (some ⟨d, 0, none⟩) c.ts.length cap, .int .i64 t, .slice (some ⟨lb, 0, none⟩) (nS c t) lc, .slice (some ⟨fb, 0, none⟩) (nG c t) fc, .slice (some ⟨mb, 0, none⟩) (nG c t) mc, .int .i64 (wordsOf c t), .slice ca c.cl.length cc], .int .i64 s, .agg #[.int .i64 hd.c, .int .i64 hd.r, .int .i64 hd.w]] w fun e w' => ∃ v, e = .returned (.tuple #[v, .int .i64 k]) ∧ DMade P w lb fb mb lc fc mc cc ca c t ws' v w' := by
  obtain ⟨z, hz⟩ : ∃ z, w.heap.size = z := ⟨_, rfl⟩
  obtain ⟨W1, hW1, hB, hY, hR, x1⟩ := bd3 w hz d lb fb mb lc fc mc cc cap ca c t hd
  have B := Lib.hid hB; have Y := Lib.hid hY; have R := Lib.hid hR; have X := Lib.hid x1
  have H := Lib.hid ((h.three hz).ext x1)
  have PL : Hid (∀ k, P3 P z k → k < W1.heap.size) := Lib.hid fun k q => by
    have := hR.lt; have := x1.size
    rcases q with q | q | q | q
    · exact Nat.lt_of_lt_of_le (hP k q) x1.size
    all_goals omega
  have ZL := Lib.hid (show w.heap.size ≤ z ∧ w.heap.size ≤ z + 2 by omega)
  have KO := Lib.hid h.ko; have TI := Lib.hid h.ti
  unfold bMake at hr
  by_cases hi : bIn c t s
  · have J0 := Lib.hid (show ((0 : Nat) : Int) < bSz c t s by have := (slotB h.ko h.ti hi).s2; omega)
    have HH : Hid (∀ W : World, Calls Tryz.prog 22 #[.agg #[.slice (some ⟨lb, 0, none⟩) (nS c t) lc, .slice (some ⟨fb, 0, none⟩) (nG c t) fc, .slice (some ⟨mb, 0, none⟩) (nG c t) mc, .int .i64 (wordsOf c t), .slice ca c.cl.length cc], .int .i64 s] W fun e w' => e = .returned (.bool true) ∧ Ext W w') := Lib.hid fun W => by
      have q := ref09_Has (lb := lb) (lc := lc) (fb := fb) (fc := fc) (mb := mb) (mc := mc) (ca := ca) (cc := cc) (c := c) (t := t) (s := s) (w := W) true (by unfold bIn at hi; simpa using hi)
      unfold dpv at q
      exact q
    by_cases hl : bLies c t s hd
    · rw [if_pos ⟨hi, hl⟩] at hr
      have HL := Lib.hid (decide_eq_true hl)
      have HK := Lib.hid (hdput_yes hl.1)
      have HX := Lib.hid (hdword_64 hl.1)
      obtain ⟨g, q, hg⟩ : ∃ g q, bHead c t ws s = (g, q) := ⟨_, _, rfl⟩
      rw [hg] at hr
      have HG := Lib.hid hg
      obtain ⟨n, rfl, hn⟩ := bIn_nat hi
      have HN := Lib.hid hn
      have HW := Lib.hid (show bWipe c t ws (n : Int) = (zeroL ws (bAt c t (n : Int) 0) (bSz c t (n : Int)).toNat, 0) by unfold bWipe; rw [if_pos hi])
      obtain ⟨ws1, hws1⟩ : ∃ ws1, zeroL ws (bAt c t (n : Int) 0) (bSz c t (n : Int)).toNat = ws1 := ⟨_, rfl⟩
      rw [hws1] at hr HW
      clear h hi hl hg hn hB hY hR x1 hP hws1
      have b0 := B.out.c 0 _ rfl; have b1 := B.out.c 1 _ rfl; have b2 := B.out.c 2 _ rfl; have b3 := B.out.c 3 _ rfl; have b4 := B.out.c 4 _ rfl; have b5 := B.out.c 5 _ rfl; have b6 := B.out.c 6 _ rfl
      have bz := B.out.lt
      go_enter Tryz.func41, Tryz.ntmps41
      go_wp2_with fail
      clear hW1 hz
      refine (HH.out _).mono ?_
      rintro e w2 ⟨rfl, x2⟩
      clear b0 b1 b2 b3 b4 b5 b6 bz
      replace H := Lib.hid (H.out.ext x2); replace X := Lib.hid (X.out.trans x2); replace B := Lib.hid (B.out.ext x2); replace R := Lib.hid (R.out.ext x2); replace Y := Lib.hid (Y.out.ext x2); replace PL := Lib.hid (fun k q => Nat.lt_of_lt_of_le (PL.out k q) x2.size)
      clear x2
      have b0 := B.out.c 0 _ rfl; have b1 := B.out.c 1 _ rfl; have b2 := B.out.c 2 _ rfl; have b3 := B.out.c 3 _ rfl; have b4 := B.out.c 4 _ rfl; have b5 := B.out.c 5 _ rfl; have b6 := B.out.c 6 _ rfl
      have bz := B.out.lt
      have y0 := Y.out.c 0 _ rfl; have y1 := Y.out.c 1 _ rfl; have y2 := Y.out.c 2 _ rfl
      have yl := Y.out.lt
      go_wp2_with fail
      clear b0 b1 b2 b3 b4 b5 b6 bz
      clear y0 y1 y2 yl
      refine (ref11_lies true hd H.out HN.out HL.out).mono ?_
      rintro e w3 ⟨rfl, x3⟩
      replace H := Lib.hid (H.out.ext x3); replace X := Lib.hid (X.out.trans x3); replace B := Lib.hid (B.out.ext x3); replace R := Lib.hid (R.out.ext x3); replace Y := Lib.hid (Y.out.ext x3); replace PL := Lib.hid (fun k q => Nat.lt_of_lt_of_le (PL.out k q) x3.size)
      clear x3
      have b0 := B.out.c 0 _ rfl; have b1 := B.out.c 1 _ rfl; have b2 := B.out.c 2 _ rfl; have b3 := B.out.c 3 _ rfl; have b4 := B.out.c 4 _ rfl; have b5 := B.out.c 5 _ rfl; have b6 := B.out.c 6 _ rfl
      have bz := B.out.lt
      go_wp2_with fail
      clear b0 b1 b2 b3 b4 b5 b6 bz
      refine (ref11_Head H.out HG.out).mono ?_
      rintro e w4 ⟨rfl, x4⟩
      replace H := Lib.hid (H.out.ext x4); replace X := Lib.hid (X.out.trans x4); replace B := Lib.hid (B.out.ext x4); replace R := Lib.hid (R.out.ext x4); replace Y := Lib.hid (Y.out.ext x4); replace PL := Lib.hid (fun k q => Nat.lt_of_lt_of_le (PL.out k q) x4.size)
      clear x4
      go_upto_region 4 with fail
      obtain ⟨W5, hW5, _, x5⟩ : ∃ W, w4.alloc (.cells #[.int .i64 g.c, .int .i64 g.r, .int .i64 g.w] 29) = W ∧ True ∧ Ext w4 W := ⟨_, rfl, trivial, (Ext.refl _).alloc _⟩
      rw [hW5]
      clear hW5
      replace H := Lib.hid (H.out.ext x5); replace X := Lib.hid (X.out.trans x5); replace B := Lib.hid (B.out.ext x5); replace R := Lib.hid (R.out.ext x5); replace Y := Lib.hid (Y.out.ext x5); replace PL := Lib.hid (fun k q => Nat.lt_of_lt_of_le (PL.out k q) x5.size)
      clear x5
      by_cases hq : q = 0
      · subst hq
        rw [if_pos rfl] at hr
        obtain ⟨rfl, rfl⟩ : ws = ws' ∧ 8 = k := by injection hr with e1 e2; exact ⟨e1, e2⟩
        have D4h := H; have X4h := X; have R4h := R
        have b0 := B.out.c 0 _ rfl; have b1 := B.out.c 1 _ rfl; have b2 := B.out.c 2 _ rfl; have b3 := B.out.c 3 _ rfl; have b4 := B.out.c 4 _ rfl; have b5 := B.out.c 5 _ rfl; have b6 := B.out.c 6 _ rfl
        have r0 := R.out.c 0 _ rfl; have r1 := R.out.c 1 _ rfl; have r2 := R.out.c 2 _ rfl; have r3 := R.out.c 3 _ rfl; have r4 := R.out.c 4 _ rfl; have r5 := R.out.c 5 _ rfl; have r6 := R.out.c 6 _ rfl
        have f0 := R.out.f 0; have f1 := R.out.f 1; have f2 := R.out.f 2; have f3 := R.out.f 3; have f4 := R.out.f 4; have f5 := R.out.f 5; have f6 := R.out.f 6
        have bz := B.out.lt; have rl := R.out.lt
        go_wp2_with fail
        have D4 := D4h.out; have X4 := X4h.out; have R4 := R4h.out
        have RB := R4.set7 (.slice (some ⟨d, 0, none⟩) c.ts.length cap) (.int .i64 t) (.slice (some ⟨lb, 0, none⟩) (nS c t) lc) (.slice (some ⟨fb, 0, none⟩) (nG c t) fc) (.slice (some ⟨mb, 0, none⟩) (nG c t) mc) (.int .i64 (wordsOf c t)) (.slice ca c.cl.length cc)
        have q0 := RB.c 0 _ rfl; have q1 := RB.c 1 _ rfl; have q2 := RB.c 2 _ rfl; have q3 := RB.c 3 _ rfl; have q4 := RB.c 4 _ rfl; have q5 := RB.c 5 _ rfl; have q6 := RB.c 6 _ rfl
        have ch := chg7 W5 (z + 2) (.slice (some ⟨d, 0, none⟩) c.ts.length cap) (.int .i64 t) (.slice (some ⟨lb, 0, none⟩) (nS c t) lc) (.slice (some ⟨fb, 0, none⟩) (nG c t) fc) (.slice (some ⟨mb, 0, none⟩) (nG c t) mc) (.int .i64 (wordsOf c t)) (.slice ca c.cl.length cc)
        refine bodyPost_ret (v := .tuple #[.agg #[.slice (some ⟨d, 0, none⟩) c.ts.length cap, .int .i64 t, .slice (some ⟨lb, 0, none⟩) (nS c t) lc, .slice (some ⟨fb, 0, none⟩) (nG c t) fc, .slice (some ⟨mb, 0, none⟩) (nG c t) mc, .int .i64 (wordsOf c t), .slice ca c.cl.length cc], .int .i64 8]) (by simp [results, Tryz.results41, go_sem, q0, q1, q2, q3, q4, q5, q6]) rfl ⟨_, rfl, d, cap, rfl, (D4.chg ch fun k e => .inr (.inr (.inr e))).one3, ch.over X4 fun k e => by subst e; exact ZL.out.2⟩
      · rw [if_neg (show ¬ (g, q).2 = 0 from hq)] at hr
        obtain rfl : 0 = k := by injection hr
        have hr : ws1.set (bAt c t (n : Int) 0) (hdword hd) = ws' := by injection hr
        have HS := Lib.hid hr
        clear hr
        have tq : (q == 0) = false := by simpa using hq
        have y0 := Y.out.c 0 _ rfl; have y1 := Y.out.c 1 _ rfl; have y2 := Y.out.c 2 _ rfl
        have yl := Y.out.lt
        go_wp2_with fail
        clear y0 y1 y2 yl
        refine (ref08_Put hd _ _ HK.out).mono ?_
        rintro e w6 ⟨rfl, x6⟩
        replace H := Lib.hid (H.out.ext x6); replace X := Lib.hid (X.out.trans x6); replace B := Lib.hid (B.out.ext x6); replace R := Lib.hid (R.out.ext x6); replace Y := Lib.hid (Y.out.ext x6); replace PL := Lib.hid (fun k q => Nat.lt_of_lt_of_le (PL.out k q) x6.size)
        clear x6
        have b0 := B.out.c 0 _ rfl; have b1 := B.out.c 1 _ rfl; have b2 := B.out.c 2 _ rfl; have b3 := B.out.c 3 _ rfl; have b4 := B.out.c 4 _ rfl; have b5 := B.out.c 5 _ rfl; have b6 := B.out.c 6 _ rfl
        have bz := B.out.lt
        go_wp2_with fail
        clear b0 b1 b2 b3 b4 b5 b6 bz
        refine (ref11_Wipe H.out PL.out HW.out).mono ?_
        rintro e w7 ⟨v, rfl, d2, cap2, rfl, hd7, x7⟩
        have H7 := Lib.hid hd7
        replace X := Lib.hid (X.out.trans x7); replace B := Lib.hid (B.out.ext x7); replace R := Lib.hid (R.out.ext x7)
        replace PL := Lib.hid (fun k q => Nat.lt_of_lt_of_le (PL.out k q) x7.size)
        clear hd7 x7
        have b0 := B.out.c 0 _ rfl; have b1 := B.out.c 1 _ rfl; have b2 := B.out.c 2 _ rfl; have b3 := B.out.c 3 _ rfl; have b4 := B.out.c 4 _ rfl; have b5 := B.out.c 5 _ rfl; have b6 := B.out.c 6 _ rfl
        have f0 := B.out.f 0; have f1 := B.out.f 1; have f2 := B.out.f 2; have f3 := B.out.f 3; have f4 := B.out.f 4; have f5 := B.out.f 5; have f6 := B.out.f 6
        have bz := B.out.lt
        go_upto_region 8 with fail
        have ch := chg7 w7 z (.slice (some ⟨d2, 0, none⟩) c.ts.length cap2) (.int .i64 t) (.slice (some ⟨lb, 0, none⟩) (nS c t) lc) (.slice (some ⟨fb, 0, none⟩) (nG c t) fc) (.slice (some ⟨mb, 0, none⟩) (nG c t) mc) (.int .i64 (wordsOf c t)) (.slice ca c.cl.length cc)
        have B8 := B.out.set7 (.slice (some ⟨d2, 0, none⟩) c.ts.length cap2) (.int .i64 t) (.slice (some ⟨lb, 0, none⟩) (nS c t) lc) (.slice (some ⟨fb, 0, none⟩) (nG c t) fc) (.slice (some ⟨mb, 0, none⟩) (nG c t) mc) (.int .i64 (wordsOf c t)) (.slice ca c.cl.length cc)
        obtain ⟨W8, hW8⟩ : ∃ W, ((((((w7.setCell ⟨z, 0, none⟩ (.slice (some ⟨d2, 0, none⟩) c.ts.length cap2)).setCell ⟨z, 1, none⟩ (.int .i64 t)).setCell ⟨z, 2, none⟩ (.slice (some ⟨lb, 0, none⟩) (nS c t) lc)).setCell ⟨z, 3, none⟩ (.slice (some ⟨fb, 0, none⟩) (nG c t) fc)).setCell ⟨z, 4, none⟩ (.slice (some ⟨mb, 0, none⟩) (nG c t) mc)).setCell ⟨z, 5, none⟩ (.int .i64 (wordsOf c t))).setCell ⟨z, 6, none⟩ (.slice ca c.cl.length cc) = W := ⟨_, rfl⟩
        rw [hW8] at ch B8 ⊢
        have H8 := Lib.hid (H7.out.chg ch fun k e => .inr (.inl e))
        have B8h := Lib.hid B8
        have X8 := Lib.hid (ch.over X.out fun k e => by subst e; exact ZL.out.1)
        have R8 := Lib.hid (R.out.chg ch (by omega))
        have PL8 := Lib.hid (fun k q => Nat.lt_of_lt_of_le (PL.out k q) ch.size)
        clear hW8 ch B8 b0 b1 b2 b3 b4 b5 b6 f0 f1 f2 f3 f4 f5 f6 bz
        have b0 := B8h.out.c 0 _ rfl; have b1 := B8h.out.c 1 _ rfl; have b2 := B8h.out.c 2 _ rfl; have b3 := B8h.out.c 3 _ rfl; have b4 := B8h.out.c 4 _ rfl; have b5 := B8h.out.c 5 _ rfl; have b6 := B8h.out.c 6 _ rfl
        have bz := B8h.out.lt
        go_wp2_with fail
        clear b0 b1 b2 b3 b4 b5 b6 bz
        refine (ref11_storeI (a := 0) (j := 0) H8.out PL8.out HN.out J0.out HX.out rfl HS.out).mono ?_
        rintro e w9 ⟨v, rfl, d3, cap3, rfl, hd3, x3⟩
        clear B H7 X R PL
        have X := X8; have R := R8
        have D4h := Lib.hid hd3; have X4h := Lib.hid (X.out.trans x3); have R4h := Lib.hid (R.out.ext x3)
        clear hd3
        have r0 := R4h.out.c 0 _ rfl; have r1 := R4h.out.c 1 _ rfl; have r2 := R4h.out.c 2 _ rfl; have r3 := R4h.out.c 3 _ rfl; have r4 := R4h.out.c 4 _ rfl; have r5 := R4h.out.c 5 _ rfl; have r6 := R4h.out.c 6 _ rfl
        have f0 := R4h.out.f 0; have f1 := R4h.out.f 1; have f2 := R4h.out.f 2; have f3 := R4h.out.f 3; have f4 := R4h.out.f 4; have f5 := R4h.out.f 5; have f6 := R4h.out.f 6
        have rl := R4h.out.lt
        go_wp2_with fail
        have D4 := D4h.out; have X4 := X4h.out; have R4 := R4h.out
        have RB := R4.set7 (.slice (some ⟨d3, 0, none⟩) c.ts.length cap3) (.int .i64 t) (.slice (some ⟨lb, 0, none⟩) (nS c t) lc) (.slice (some ⟨fb, 0, none⟩) (nG c t) fc) (.slice (some ⟨mb, 0, none⟩) (nG c t) mc) (.int .i64 (wordsOf c t)) (.slice ca c.cl.length cc)
        have q0 := RB.c 0 _ rfl; have q1 := RB.c 1 _ rfl; have q2 := RB.c 2 _ rfl; have q3 := RB.c 3 _ rfl; have q4 := RB.c 4 _ rfl; have q5 := RB.c 5 _ rfl; have q6 := RB.c 6 _ rfl
        have ch := chg7 w9 (z + 2) (.slice (some ⟨d3, 0, none⟩) c.ts.length cap3) (.int .i64 t) (.slice (some ⟨lb, 0, none⟩) (nS c t) lc) (.slice (some ⟨fb, 0, none⟩) (nG c t) fc) (.slice (some ⟨mb, 0, none⟩) (nG c t) mc) (.int .i64 (wordsOf c t)) (.slice ca c.cl.length cc)
        refine bodyPost_ret (v := .tuple #[.agg #[.slice (some ⟨d3, 0, none⟩) c.ts.length cap3, .int .i64 t, .slice (some ⟨lb, 0, none⟩) (nS c t) lc, .slice (some ⟨fb, 0, none⟩) (nG c t) fc, .slice (some ⟨mb, 0, none⟩) (nG c t) mc, .int .i64 (wordsOf c t), .slice ca c.cl.length cc], .int .i64 0]) (by simp [results, Tryz.results41, go_sem, q0, q1, q2, q3, q4, q5, q6]) rfl ⟨_, rfl, d3, cap3, rfl, (D4.chg ch fun k e => .inr (.inr (.inr e))).one3, ch.over X4 fun k e => by subst e; exact ZL.out.2⟩
    · rw [if_neg (fun q => hl q.2)] at hr
      obtain ⟨rfl, rfl⟩ : ws = ws' ∧ 2 = k := by injection hr with e1 e2; exact ⟨e1, e2⟩
      have HL := Lib.hid (decide_eq_false hl)
      obtain ⟨n, rfl, hn⟩ := bIn_nat hi
      have HN := Lib.hid hn
      clear h hi hl hn hB hY hR x1 hP hr
      have b0 := B.out.c 0 _ rfl; have b1 := B.out.c 1 _ rfl; have b2 := B.out.c 2 _ rfl; have b3 := B.out.c 3 _ rfl; have b4 := B.out.c 4 _ rfl; have b5 := B.out.c 5 _ rfl; have b6 := B.out.c 6 _ rfl
      have bz := B.out.lt
      go_enter Tryz.func41, Tryz.ntmps41
      go_wp2_with fail
      clear hW1 hz
      refine (HH.out _).mono ?_
      rintro e w2 ⟨rfl, x2⟩
      clear b0 b1 b2 b3 b4 b5 b6 bz
      replace H := Lib.hid (H.out.ext x2); replace X := Lib.hid (X.out.trans x2); replace B := Lib.hid (B.out.ext x2); replace R := Lib.hid (R.out.ext x2); replace Y := Lib.hid (Y.out.ext x2); replace PL := Lib.hid (fun k q => Nat.lt_of_lt_of_le (PL.out k q) x2.size)
      clear x2
      have b0 := B.out.c 0 _ rfl; have b1 := B.out.c 1 _ rfl; have b2 := B.out.c 2 _ rfl; have b3 := B.out.c 3 _ rfl; have b4 := B.out.c 4 _ rfl; have b5 := B.out.c 5 _ rfl; have b6 := B.out.c 6 _ rfl
      have bz := B.out.lt
      have y0 := Y.out.c 0 _ rfl; have y1 := Y.out.c 1 _ rfl; have y2 := Y.out.c 2 _ rfl
      have yl := Y.out.lt
      go_wp2_with fail
      clear b0 b1 b2 b3 b4 b5 b6 bz
      clear y0 y1 y2 yl
      refine (ref11_lies false hd H.out HN.out HL.out).mono ?_
      rintro e w3 ⟨rfl, x3⟩
      replace H := Lib.hid (H.out.ext x3); replace X := Lib.hid (X.out.trans x3); replace B := Lib.hid (B.out.ext x3); replace R := Lib.hid (R.out.ext x3); replace Y := Lib.hid (Y.out.ext x3); replace PL := Lib.hid (fun k q => Nat.lt_of_lt_of_le (PL.out k q) x3.size)
      clear x3
      have D4h := H; have X4h := X; have R4h := R
      have b0 := B.out.c 0 _ rfl; have b1 := B.out.c 1 _ rfl; have b2 := B.out.c 2 _ rfl; have b3 := B.out.c 3 _ rfl; have b4 := B.out.c 4 _ rfl; have b5 := B.out.c 5 _ rfl; have b6 := B.out.c 6 _ rfl
      have r0 := R.out.c 0 _ rfl; have r1 := R.out.c 1 _ rfl; have r2 := R.out.c 2 _ rfl; have r3 := R.out.c 3 _ rfl; have r4 := R.out.c 4 _ rfl; have r5 := R.out.c 5 _ rfl; have r6 := R.out.c 6 _ rfl
      have f0 := R.out.f 0; have f1 := R.out.f 1; have f2 := R.out.f 2; have f3 := R.out.f 3; have f4 := R.out.f 4; have f5 := R.out.f 5; have f6 := R.out.f 6
      have bz := B.out.lt; have rl := R.out.lt
      go_wp2_with fail
      have D4 := D4h.out; have X4 := X4h.out; have R4 := R4h.out
      have RB := R4.set7 (.slice (some ⟨d, 0, none⟩) c.ts.length cap) (.int .i64 t) (.slice (some ⟨lb, 0, none⟩) (nS c t) lc) (.slice (some ⟨fb, 0, none⟩) (nG c t) fc) (.slice (some ⟨mb, 0, none⟩) (nG c t) mc) (.int .i64 (wordsOf c t)) (.slice ca c.cl.length cc)
      have q0 := RB.c 0 _ rfl; have q1 := RB.c 1 _ rfl; have q2 := RB.c 2 _ rfl; have q3 := RB.c 3 _ rfl; have q4 := RB.c 4 _ rfl; have q5 := RB.c 5 _ rfl; have q6 := RB.c 6 _ rfl
      have ch := chg7 w3 (z + 2) (.slice (some ⟨d, 0, none⟩) c.ts.length cap) (.int .i64 t) (.slice (some ⟨lb, 0, none⟩) (nS c t) lc) (.slice (some ⟨fb, 0, none⟩) (nG c t) fc) (.slice (some ⟨mb, 0, none⟩) (nG c t) mc) (.int .i64 (wordsOf c t)) (.slice ca c.cl.length cc)
      refine bodyPost_ret (v := .tuple #[.agg #[.slice (some ⟨d, 0, none⟩) c.ts.length cap, .int .i64 t, .slice (some ⟨lb, 0, none⟩) (nS c t) lc, .slice (some ⟨fb, 0, none⟩) (nG c t) fc, .slice (some ⟨mb, 0, none⟩) (nG c t) mc, .int .i64 (wordsOf c t), .slice ca c.cl.length cc], .int .i64 2]) (by simp [results, Tryz.results41, go_sem, q0, q1, q2, q3, q4, q5, q6]) rfl ⟨_, rfl, d, cap, rfl, (D4.chg ch fun k e => .inr (.inr (.inr e))).one3, ch.over X4 fun k e => by subst e; exact ZL.out.2⟩
  · rw [if_neg (fun q => hi q.1)] at hr
    obtain ⟨rfl, rfl⟩ : ws = ws' ∧ 2 = k := by injection hr with e1 e2; exact ⟨e1, e2⟩
    have HH : Hid (∀ W : World, Calls Tryz.prog 22 #[.agg #[.slice (some ⟨lb, 0, none⟩) (nS c t) lc, .slice (some ⟨fb, 0, none⟩) (nG c t) fc, .slice (some ⟨mb, 0, none⟩) (nG c t) mc, .int .i64 (wordsOf c t), .slice ca c.cl.length cc], .int .i64 s] W fun e w' => e = .returned (.bool false) ∧ Ext W w') := Lib.hid fun W => by
      have q := ref09_Has (lb := lb) (lc := lc) (fb := fb) (fc := fc) (mb := mb) (mc := mc) (ca := ca) (cc := cc) (c := c) (t := t) (s := s) (w := W) false (by unfold bIn at hi; simpa using hi)
      unfold dpv at q
      exact q
    clear h hr hB hY hR x1 hP hi
    have b0 := B.out.c 0 _ rfl; have b1 := B.out.c 1 _ rfl; have b2 := B.out.c 2 _ rfl; have b3 := B.out.c 3 _ rfl; have b4 := B.out.c 4 _ rfl; have b5 := B.out.c 5 _ rfl; have b6 := B.out.c 6 _ rfl
    have bz := B.out.lt
    go_enter Tryz.func41, Tryz.ntmps41
    go_wp2_with fail
    clear hW1 hz
    refine (HH.out _).mono ?_
    rintro e w2 ⟨rfl, x2⟩
    clear b0 b1 b2 b3 b4 b5 b6 bz
    replace H := Lib.hid (H.out.ext x2); replace X := Lib.hid (X.out.trans x2); replace B := Lib.hid (B.out.ext x2); replace R := Lib.hid (R.out.ext x2); replace Y := Lib.hid (Y.out.ext x2); replace PL := Lib.hid (fun k q => Nat.lt_of_lt_of_le (PL.out k q) x2.size)
    clear x2
    have D4h := H; have X4h := X; have R4h := R
    have b0 := B.out.c 0 _ rfl; have b1 := B.out.c 1 _ rfl; have b2 := B.out.c 2 _ rfl; have b3 := B.out.c 3 _ rfl; have b4 := B.out.c 4 _ rfl; have b5 := B.out.c 5 _ rfl; have b6 := B.out.c 6 _ rfl
    have r0 := R.out.c 0 _ rfl; have r1 := R.out.c 1 _ rfl; have r2 := R.out.c 2 _ rfl; have r3 := R.out.c 3 _ rfl; have r4 := R.out.c 4 _ rfl; have r5 := R.out.c 5 _ rfl; have r6 := R.out.c 6 _ rfl
    have f0 := R.out.f 0; have f1 := R.out.f 1; have f2 := R.out.f 2; have f3 := R.out.f 3; have f4 := R.out.f 4; have f5 := R.out.f 5; have f6 := R.out.f 6
    have bz := B.out.lt; have rl := R.out.lt
    go_wp2_with fail
    have D4 := D4h.out; have X4 := X4h.out; have R4 := R4h.out
    have RB := R4.set7 (.slice (some ⟨d, 0, none⟩) c.ts.length cap) (.int .i64 t) (.slice (some ⟨lb, 0, none⟩) (nS c t) lc) (.slice (some ⟨fb, 0, none⟩) (nG c t) fc) (.slice (some ⟨mb, 0, none⟩) (nG c t) mc) (.int .i64 (wordsOf c t)) (.slice ca c.cl.length cc)
    have q0 := RB.c 0 _ rfl; have q1 := RB.c 1 _ rfl; have q2 := RB.c 2 _ rfl; have q3 := RB.c 3 _ rfl; have q4 := RB.c 4 _ rfl; have q5 := RB.c 5 _ rfl; have q6 := RB.c 6 _ rfl
    have ch := chg7 w2 (z + 2) (.slice (some ⟨d, 0, none⟩) c.ts.length cap) (.int .i64 t) (.slice (some ⟨lb, 0, none⟩) (nS c t) lc) (.slice (some ⟨fb, 0, none⟩) (nG c t) fc) (.slice (some ⟨mb, 0, none⟩) (nG c t) mc) (.int .i64 (wordsOf c t)) (.slice ca c.cl.length cc)
    refine bodyPost_ret (v := .tuple #[.agg #[.slice (some ⟨d, 0, none⟩) c.ts.length cap, .int .i64 t, .slice (some ⟨lb, 0, none⟩) (nS c t) lc, .slice (some ⟨fb, 0, none⟩) (nG c t) fc, .slice (some ⟨mb, 0, none⟩) (nG c t) mc, .int .i64 (wordsOf c t), .slice ca c.cl.length cc], .int .i64 2]) (by simp [results, Tryz.results41, go_sem, q0, q1, q2, q3, q4, q5, q6]) rfl ⟨_, rfl, d, cap, rfl, (D4.chg ch fun k e => .inr (.inr (.inr e))).one3, ch.over X4 fun k e => by subst e; exact ZL.out.2⟩

end Go.Proofs.YtnbngcagnchkdaaGreatDoor

/-! commonageref11: Refs, Words, SameInts. (Printed by wip/gen11d.py.) -/
namespace Go.Proofs.YtnbngcagnchkdaaGreatDoor
open Go.RowKit
variable {P Q : Nat → Prop} {w w' W : World} {d lb fb mb lc fc mc cc cap : Nat} {ca : Option Addr} {c : Conf} {t : Nat} {ws ws' xs : List Int} {s i k u x : Int}

/-- A row of numbers and an error are told. -/
def RowAns (kd : IntKind) (xs : List Int) (q : Int) (w : World) (e : Ending) (w' : World) : Prop := ∃ a cap, e = .returned (.tuple #[.slice a xs.length cap, .int .i64 q]) ∧ At kd w' a xs ∧ Ext w w'
theorem RowAns.mk {kd : IntKind} {xs : List Int} {q : Int} {e : Ending} {a : Option Addr} {cap : Nat} (h1 : e = .returned (.tuple #[.slice a xs.length cap, .int .i64 q])) (h2 : At kd w' a xs) (h3 : Ext w w') : RowAns kd xs q w e w' := ⟨a, cap, h1, h2, h3⟩
/-- The words of an object, one by one. -/
theorem bWord_eq {hd : Hd} {R M j : Nat} (hh : bHead c t ws s = (hd, 0)) (hR : hd.r = R) (hM : hd.w = M) (hj : j < M) : bWord c t ws s ((R : Int) + j) = (bwd c t ws s (1 + (R + j)), 0) := by
  have ok := (bHead_ok (c := c) (t := t) (ws := ws) (s := s) (by rw [hh])).2.2.1
  rw [hh] at ok
  have f : bField c t ws s ((R : Int) + j) false = 0 := by
    unfold bField
    rw [hh, if_pos rfl]
    have : hdfield hd ((R : Int) + j) = (false, 0) := by
      unfold hdfield
      rw [if_pos ok.1, if_neg (by omega), decide_eq_false (by omega)]
    exact if_pos this
  unfold bWord bLoad
  rw [f, if_pos rfl, show ((R : Int) + j).toNat = R + j by omega]
theorem bWords_in {hd : Hd} {R M j : Nat} {n : Nat} (ko : KOk c) (ti : t < c.ts.length) (hh : bHead c t ws (n : Int) = (hd, 0)) (hR : hd.r = R) (hM : hd.w = M) (hj : j < M) : n < nS c t ∧ ((1 + (R + j) : Nat) : Int) < bSz c t (n : Int) := by
  have q := bHead_ok (c := c) (t := t) (ws := ws) (s := (n : Int)) (by rw [hh])
  rw [hh] at q
  have q3 : hd.r + hd.w + 1 ≤ bSz c t (n : Int) := q.2.2.1.2.2
  have := q.1.2
  omega

set_option maxRecDepth 100000 in
set_option maxHeartbeats 16000000 in
theorem ref11_Refs (h : DBd P w d lb fb mb ca c t ws) (hr : bRefs c t ws s = (xs, k)) :
    Calls Tryz.prog 51 #[.agg #[.slice (some ⟨d, 0, none⟩) c.ts.length cap, .int .i64 t, .slice (some ⟨lb, 0, none⟩) (nS c t) lc, .slice (some ⟨fb, 0, none⟩) (nG c t) fc, .slice (some ⟨mb, 0, none⟩) (nG c t) mc, .int .i64 (wordsOf c t), .slice ca c.cl.length cc], .int .i64 s] w (RowAns .i64 xs k w) := by
  obtain ⟨z, hz⟩ : ∃ z, w.heap.size = z := ⟨_, rfl⟩
  obtain ⟨W0, hW0, hB, x0⟩ := bd1 w hz d lb fb mb lc fc mc cc cap ca c t
  have B := Lib.hid hB; have X := Lib.hid x0
  have H := Lib.hid (h.ext x0)
  have KO := Lib.hid h.ko; have TI := Lib.hid h.ti
  obtain ⟨hd, q, hh⟩ : ∃ hd q, bHead c t ws s = (hd, q) := ⟨_, _, rfl⟩
  have HH := Lib.hid hh
  obtain ⟨i0, hi0, hz0, hz1, hz2⟩ := info_parts info_int
  obtain ⟨R, hR, r63⟩ : ∃ R : Nat, hd.r = R ∧ R ≤ 63 := by
    rcases bHead_err (c := c) (t := t) (ws := ws) (s := s) with e | e | e
    · have ok := (bHead_ok e).2.2.1.1
      rw [hh] at ok
      change hdok hd at ok
      obtain ⟨_, o2, o3, o4, o5⟩ := ok
      exact ⟨hd.r.toNat, by omega, by omega⟩
    · rw [hh] at e; injection e with e1 e2; subst e1; exact ⟨0, rfl, by omega⟩
    · rw [hh] at e; injection e with e1 e2; subst e1; exact ⟨0, rfl, by omega⟩
  have HQ0 : Hid (q ≠ 0 → R = 0) := Lib.hid fun n0 => by
    rcases bHead_err (c := c) (t := t) (ws := ws) (s := s) with e | e | e
    · rw [hh] at e; exact absurd e n0
    · rw [hh] at e; injection e with e1 e2; subst e1; have : (0 : Int) = R := hR; omega
    · rw [hh] at e; injection e with e1 e2; subst e1; have : (0 : Int) = R := hR; omega
  have HR : Hid ((q = 0 ∧ oneR (fun j => bRef c t ws s j) R = (xs, k)) ∨ (q ≠ 0 ∧ [] = xs ∧ q = k)) := Lib.hid (by
    unfold bRefs at hr
    rw [hh] at hr
    by_cases h0 : q = 0
    · subst h0; rw [if_pos rfl, show (hd, (0 : Int)).1.r.toNat = R by show hd.r.toNat = R; omega] at hr; exact .inl ⟨rfl, hr⟩
    · rw [if_neg (show ¬ (hd, q).2 = 0 from h0)] at hr; injection hr with e1 e2; exact .inr ⟨h0, e1, e2⟩)
  obtain ⟨C, Rr, Ww⟩ := hd
  change Rr = (R : Int) at hR
  subst hR
  have HZ := Lib.hid hz
  clear h hh hr hB x0
  have b0 := B.out.c 0 _ rfl; have b1 := B.out.c 1 _ rfl; have b2 := B.out.c 2 _ rfl; have b3 := B.out.c 3 _ rfl; have b4 := B.out.c 4 _ rfl; have b5 := B.out.c 5 _ rfl; have b6 := B.out.c 6 _ rfl
  have bz := B.out.lt
  go_enter Tryz.func51, Tryz.ntmps51
  go_wp2_with fail
  clear hW0 hz
  refine (ref11_Head H.out HH.out).mono ?_
  rintro e w2 ⟨rfl, x2⟩
  clear b0 b1 b2 b3 b4 b5 b6 bz
  replace H := Lib.hid (H.out.ext x2); replace X := Lib.hid (X.out.trans x2); replace B := Lib.hid (B.out.ext x2)
  clear x2
  go_upto_region 2 with fail
  obtain ⟨y, hy⟩ : ∃ y, w2.heap.size = y := ⟨_, rfl⟩
  obtain ⟨W3, hW3, hY, x3⟩ : ∃ W, w2.alloc (.cells #[.int .i64 C, .int .i64 (R : Int), .int .i64 Ww] 29) = W ∧ BoxG W y [.int .i64 C, .int .i64 (R : Int), .int .i64 Ww] ∧ Ext w2 W := ⟨_, rfl, BoxG.new w2 _ _ hy, (Ext.refl _).alloc _⟩
  rw [hW3, hy]
  have Y := Lib.hid hY
  clear hW3 hy hY
  replace H := Lib.hid (H.out.ext x3); replace X := Lib.hid (X.out.trans x3); replace B := Lib.hid (B.out.ext x3)
  clear x3
  obtain ⟨z3, hz3⟩ : ∃ z3, W3.heap.size = z3 := ⟨_, rfl⟩
  have HZ3 := Lib.hid hz3
  clear hz3
  go_upto_region 4 with fail
  go_loopw [7, 8, 9] (fun ev sv iv wr => ∃ (q1 : Int) (j : Nat) (ys : List Int), j ≤ R ∧ ev = .int .i64 q1 ∧ iv = .int .i64 j ∧ ys.length = j ∧ Hid ((q1 = 0 ∧ oneR (fun j => bRef c t ws s j) j = (ys, 0)) ∨ (q1 ≠ 0 ∧ [] = xs ∧ q1 = k)) ∧ Hid (q1 = 0 → q = 0) ∧ Hid (wr.ownsRow z3 3 1 sv j (ncs .i64 ys)) ∧ Hid (Ext W3 wr)) (fun _ _ iv _ => R - (intOf iv).toNat)
  case atStart =>
    refine ⟨q, 0, [], Nat.zero_le _, rfl, rfl, rfl, Lib.hid ?_, Lib.hid id, Lib.hid (World.ownsRow_nil _ _ _ _), Lib.hid (Ext.refl _)⟩
    rcases HR.out with ⟨e, _⟩ | e
    · exact .inl ⟨e, rfl⟩
    · exact .inr e
  case round =>
    obtain ⟨q1, j, ys, hj, rfl, rfl, hl, HY, HI, HO, XW⟩ := hrel
    have j0 : (0 : Int) ≤ (j : Int) := Int.natCast_nonneg _
    have B5 := Lib.hid (B.out.ext XW.out); have Y5 := Lib.hid (Y.out.ext XW.out); have H5 := Lib.hid (H.out.ext XW.out)
    have y0 := Y5.out.c 0 _ rfl; have y1 := Y5.out.c 1 _ rfl; have y2 := Y5.out.c 2 _ rfl
    have yl := Y5.out.lt
    by_cases h1 : q1 = 0
    · by_cases hlt : j < R
      · subst h1
        obtain ⟨v, q2, hv⟩ : ∃ v q2, bRef c t ws s j = (v, q2) := ⟨_, _, rfl⟩
        have HV := Lib.hid hv
        clear hv
        have b0 := B5.out.c 0 _ rfl; have b1 := B5.out.c 1 _ rfl; have b2 := B5.out.c 2 _ rfl; have b3 := B5.out.c 3 _ rfl; have b4 := B5.out.c 4 _ rfl; have b5 := B5.out.c 5 _ rfl; have b6 := B5.out.c 6 _ rfl
        have bz := B5.out.lt
        go_wp2_with fail
        clear b0 b1 b2 b3 b4 b5 b6 bz
        clear y0 y1 y2 yl
        refine (ref11_Ref H5.out HV.out).mono ?_
        rintro e w6 ⟨rfl, x6⟩
        replace XW := Lib.hid (XW.out.trans x6)
        replace HO := Lib.hid (own_ext HO.out x6)
        clear x6
        have BL := Lib.hid (show z3 ≤ w6.heap.size by have := XW.out.size; have := HZ3.out; omega)
        go_wp2_with (at_builtin; refine wpList_append_own _ rfl (.tmp 35) (.tmp 37) 22 rfl z3 3 i0 (.int .i64 0) 1 8 Tryz.underlying22 hi0 hz0 hz1 hz2 rfl (by decide) u8 j (ncs .i64 ys) rfl (own_ext HO.out ((Ext.refl w6).alloc _)) ⟨w6.heap.size, 0, none⟩ 1 1 [.int .i64 v] rfl rfl (news1 _ _ _) (one1 rfl) (by unfold maxLen; omega) (by omega) (by have := BL.out; simp; omega) ?_; intro v' wz hown hgrow hnil; rw [ncs_snoc] at hown; have HO2 := Lib.hid hown; have X2 := Lib.hid ((XW.out.alloc (.cells #[.int .i64 v] 3)).grown hgrow (fun k e => by have := (HO.out.lt k e).1; have := HZ3.out; omega)); clear hown hgrow hnil)
        go_roundw
        case rel =>
          refine ⟨q2, j + 1, ys ++ [v], by omega, rfl, by go_num, by simp [hl], Lib.hid ?_, Lib.hid fun _ => HI.out (by first | trivial | rfl), HO2, X2⟩
          rcases HY.out with ⟨_, e⟩ | ⟨e, _⟩
          · by_cases h2 : q2 = 0
            · subst h2; exact .inl ⟨rfl, oneR_step e HV.out⟩
            · rcases HR.out with ⟨_, e3⟩ | ⟨e3, _⟩
              · rw [oneR_fail (F := fun j => bRef c t ws s j) e HV.out h2 hlt] at e3
                injection e3 with e4 e5
                exact .inr ⟨h2, e4, e5⟩
              · exact absurd (HI.out (by first | trivial | rfl)) e3
          · exact absurd rfl e
        case measure => simp [intOf]; omega
      · have t1 : decide (j < R) = false := decide_eq_false hlt
        have t1' : decide ((j : Int) < (R : Int)) = false := decide_eq_false (by omega)
        subst h1
        obtain ⟨rfl, rfl⟩ : ys = xs ∧ 0 = k := by
          rcases HY.out with ⟨_, e⟩ | ⟨e, _⟩
          · rcases HR.out with ⟨_, e3⟩ | ⟨e3, _⟩
            · rw [show R = j by omega, e] at e3; injection e3 with e4 e5; exact ⟨e4, e5⟩
            · exact absurd (HI.out (by first | trivial | rfl)) e3
          · exact absurd rfl e
        obtain ⟨a, cap', rfl, hn⟩ := newInts_of (by rw [HZ3.out, hl]; exact HO.out : wr.ownsRow W3.heap.size 3 1 u8 ys.length (ncs .i64 ys))
        have N := Lib.hid hn.row
        have HL := Lib.hid hl
        clear hn HO hlt hl
        go_wp2_with fail
        go_ret2
        exact RowAns.mk (a := a) (cap := cap') (by rw [HL.out]; rfl) N.out (X.out.trans XW.out)
    · have tq : (q1 == 0) = false := by simpa using h1
      obtain ⟨rfl, rfl⟩ : [] = xs ∧ q1 = k := by
        rcases HY.out with ⟨e, _⟩ | ⟨_, e⟩
        · exact absurd e h1
        · exact e
      clear HO hl
      by_cases hlt : j < R
      · have t1 : decide (j < R) = true := decide_eq_true hlt
        have t1' : decide ((j : Int) < (R : Int)) = true := decide_eq_true (by omega)
        go_wp2_with fail
        go_ret2
        exact RowAns.mk (a := none) (cap := 0) rfl (fun i hi => absurd hi (Nat.not_lt_zero _)) (X.out.trans XW.out)
      · have t1 : decide (j < R) = false := decide_eq_false hlt
        have t1' : decide ((j : Int) < (R : Int)) = false := decide_eq_false (by omega)
        clear hlt
        go_wp2_with fail
        go_ret2
        exact RowAns.mk (a := none) (cap := 0) rfl (fun i hi => absurd hi (Nat.not_lt_zero _)) (X.out.trans XW.out)

set_option maxRecDepth 100000 in
set_option maxHeartbeats 16000000 in
theorem ref11_Words (h : DBd P w d lb fb mb ca c t ws) (hr : bWords c t ws s = (xs, k)) :
    Calls Tryz.prog 52 #[.agg #[.slice (some ⟨d, 0, none⟩) c.ts.length cap, .int .i64 t, .slice (some ⟨lb, 0, none⟩) (nS c t) lc, .slice (some ⟨fb, 0, none⟩) (nG c t) fc, .slice (some ⟨mb, 0, none⟩) (nG c t) mc, .int .i64 (wordsOf c t), .slice ca c.cl.length cc], .int .i64 s] w (RowAns .u64 xs k w) := by
  obtain ⟨z, hz⟩ : ∃ z, w.heap.size = z := ⟨_, rfl⟩
  obtain ⟨W0, hW0, hB, x0⟩ := bd1 w hz d lb fb mb lc fc mc cc cap ca c t
  have B := Lib.hid hB; have X := Lib.hid x0
  have H := Lib.hid (h.ext x0)
  have KO := Lib.hid h.ko; have TI := Lib.hid h.ti
  obtain ⟨hd, q, hh⟩ : ∃ hd q, bHead c t ws s = (hd, q) := ⟨_, _, rfl⟩
  have HH := Lib.hid hh
  obtain ⟨i0, hi0, hz0, hz1, hz2⟩ := info_parts info_w64
  unfold bWords at hr
  rw [hh] at hr
  by_cases h0 : q = 0
  · subst h0
    rw [if_pos rfl] at hr
    have q1 := bHead_ok (c := c) (t := t) (ws := ws) (s := s) (by rw [hh])
    have ok : hdok hd := by have := q1.2.2.1.1; rw [hh] at this; exact this
    obtain ⟨_, o2, o3, o4, o5⟩ := ok
    obtain ⟨R, hR⟩ : ∃ R : Nat, hd.r = R := ⟨hd.r.toNat, by omega⟩
    obtain ⟨M, hM⟩ : ∃ M : Nat, hd.w = M := ⟨hd.w.toNat, by omega⟩
    have r63 : R ≤ 63 := by omega
    have m63 : M ≤ 63 := by omega
    obtain ⟨n, rfl, hn⟩ := bIn_nat q1.1
    have WI := Lib.hid (fun j (hj : j < M) => bWords_in (ws := ws) h.ko h.ti hh hR hM hj)
    have WE := Lib.hid (fun j (hj : j < M) => bWord_eq (c := c) (t := t) (ws := ws) hh hR hM hj)
    obtain ⟨C, Rr, Ww⟩ := hd
    change Rr = (R : Int) at hR
    change Ww = (M : Int) at hM
    subst hR hM
    change oneR (fun j => bWord c t ws (n : Int) ((R : Int) + j)) (Int.toNat (M : Int)) = (xs, k) at hr
    rw [Int.toNat_natCast] at hr
    have HR := Lib.hid hr
    clear h hh hr hB x0 q1 hn
    have b0 := B.out.c 0 _ rfl; have b1 := B.out.c 1 _ rfl; have b2 := B.out.c 2 _ rfl; have b3 := B.out.c 3 _ rfl; have b4 := B.out.c 4 _ rfl; have b5 := B.out.c 5 _ rfl; have b6 := B.out.c 6 _ rfl
    have bz := B.out.lt
    go_enter Tryz.func52, Tryz.ntmps52
    go_wp2_with fail
    clear hW0 hz
    refine (ref11_Head H.out HH.out).mono ?_
    rintro e w2 ⟨rfl, x2⟩
    clear b0 b1 b2 b3 b4 b5 b6 bz
    replace H := Lib.hid (H.out.ext x2); replace X := Lib.hid (X.out.trans x2); replace B := Lib.hid (B.out.ext x2)
    clear x2
    go_upto_region 2 with fail
    obtain ⟨y, hy⟩ : ∃ y, w2.heap.size = y := ⟨_, rfl⟩
    obtain ⟨W3, hW3, hY, x3⟩ : ∃ W, w2.alloc (.cells #[.int .i64 C, .int .i64 (R : Int), .int .i64 (M : Int)] 29) = W ∧ BoxG W y [.int .i64 C, .int .i64 (R : Int), .int .i64 (M : Int)] ∧ Ext w2 W := ⟨_, rfl, BoxG.new w2 _ _ hy, (Ext.refl _).alloc _⟩
    rw [hW3, hy]
    have Y := Lib.hid hY
    clear hW3 hy hY
    replace H := Lib.hid (H.out.ext x3); replace X := Lib.hid (X.out.trans x3); replace B := Lib.hid (B.out.ext x3)
    clear x3
    obtain ⟨z3, hz3⟩ : ∃ z3, W3.heap.size = z3 := ⟨_, rfl⟩
    have HZ3 := Lib.hid hz3
    clear hz3
    go_upto_region 6 with fail
    go_loopw [8, 9] (fun sv iv wr => ∃ (j : Nat) (ys : List Int), j ≤ M ∧ iv = .int .i64 j ∧ ys.length = j ∧ Hid (oneR (fun j => bWord c t ws (n : Int) ((R : Int) + j)) j = (ys, 0)) ∧ Hid (wr.ownsRow z3 27 1 sv j (ncs .u64 ys)) ∧ Hid (Ext W3 wr)) (fun _ iv _ => M - (intOf iv).toNat)
    case atStart => exact ⟨0, [], Nat.zero_le _, rfl, rfl, Lib.hid rfl, Lib.hid (World.ownsRow_nil _ _ _ _), Lib.hid (Ext.refl _)⟩
    case round =>
      obtain ⟨j, ys, hj, rfl, hl, HY, HO, XW⟩ := hrel
      have j0 : (0 : Int) ≤ (j : Int) := Int.natCast_nonneg _
      have B5 := Lib.hid (B.out.ext XW.out); have Y5 := Lib.hid (Y.out.ext XW.out); have H5 := Lib.hid (H.out.ext XW.out)
      have y0 := Y5.out.c 0 _ rfl; have y1 := Y5.out.c 1 _ rfl; have y2 := Y5.out.c 2 _ rfl
      have yl := Y5.out.lt
      by_cases hlt : j < M
      · obtain ⟨u0, hu0⟩ : ∃ u0, bwd c t ws (n : Int) (1 + (R + j)) = u0 := ⟨_, rfl⟩
        have HU := Lib.hid hu0
        have WN := Lib.hid (WI.out j hlt)
        have WV := Lib.hid (show (fun j : Nat => bWord c t ws (n : Int) ((R : Int) + j)) j = (u0, 0) by rw [← hu0]; exact WE.out j hlt)
        have wa : IntKind.i64.wrap (1 + (R : Int)) = 1 + R := IntWalk.i64_in _ (by omega)
        have wa2 : IntKind.i64.wrap ((R : Int) + 1) = R + 1 := IntWalk.i64_in _ (by omega)
        have wb : IntKind.i64.wrap (1 + (R : Int) + j) = 1 + R + j := IntWalk.i64_in _ (by omega)
        have HA := Lib.hid (show 1 + (R : Int) + j = ((1 + (R + j) : Nat) : Int) by omega)
        clear hu0
        have b0 := B5.out.c 0 _ rfl; have b1 := B5.out.c 1 _ rfl; have b2 := B5.out.c 2 _ rfl; have b3 := B5.out.c 3 _ rfl; have b4 := B5.out.c 4 _ rfl; have b5 := B5.out.c 5 _ rfl; have b6 := B5.out.c 6 _ rfl
        have bz := B5.out.lt
        go_wp2_with fail
        clear b0 b1 b2 b3 b4 b5 b6 bz
        clear y0 y1 y2 yl
        refine (ref11_loadI u0 H5.out WN.out.1 WN.out.2 HU.out HA.out).mono ?_
        rintro e w6 ⟨rfl, x6⟩
        replace XW := Lib.hid (XW.out.trans x6)
        replace HO := Lib.hid (own_ext HO.out x6)
        clear x6
        have BL := Lib.hid (show z3 ≤ w6.heap.size by have := XW.out.size; have := HZ3.out; omega)
        go_wp2_with (at_builtin; refine wpList_append_own _ rfl (.tmp 25) (.tmp 34) 52 rfl z3 27 i0 (.int .u64 0) 1 8 Tryz.underlying52 hi0 hz0 hz1 hz2 rfl (by decide) u8 j (ncs .u64 ys) rfl (own_ext HO.out ((Ext.refl w6).alloc _)) ⟨w6.heap.size, 0, none⟩ 1 1 [.int .u64 u0] rfl rfl (news1 _ _ _) (one1 rfl) (by unfold maxLen; omega) (by omega) (by have := BL.out; simp; omega) ?_; intro v' wz hown hgrow hnil; rw [ncs_snoc] at hown; have HO2 := Lib.hid hown; have X2 := Lib.hid ((XW.out.alloc (.cells #[.int .u64 u0] 27)).grown hgrow (fun k e => by have := (HO.out.lt k e).1; have := HZ3.out; omega)); clear hown hgrow hnil)
        go_roundw
        case rel => exact ⟨j + 1, ys ++ [u0], by omega, by go_num, by simp [hl], Lib.hid (oneR_step HY.out WV.out), HO2, X2⟩
        case measure => simp [intOf]; omega
      · have t1 : decide (j < M) = false := decide_eq_false hlt
        have t1' : decide ((j : Int) < (M : Int)) = false := decide_eq_false (by omega)
        obtain ⟨rfl, rfl⟩ : ys = xs ∧ 0 = k := by
          have e3 := HR.out
          rw [show M = j by omega, HY.out] at e3; injection e3 with e4 e5; exact ⟨e4, e5⟩
        obtain ⟨a, cap', rfl, hn⟩ := newInts_of (by rw [HZ3.out, hl]; exact HO.out : wr.ownsRow W3.heap.size 27 1 u8 ys.length (ncs .u64 ys))
        have N := Lib.hid hn.row
        have HL := Lib.hid hl
        clear hn HO hlt hl
        go_wp2_with fail
        go_ret2
        exact RowAns.mk (a := a) (cap := cap') (by rw [HL.out]; rfl) N.out (X.out.trans XW.out)
  · rw [if_neg (show ¬ (hd, q).2 = 0 from h0)] at hr
    obtain ⟨rfl, rfl⟩ : [] = xs ∧ q = k := by injection hr with e1 e2; exact ⟨e1, e2⟩
    have tq : (q == 0) = false := by simpa using h0
    clear h hh hr hB x0
    have b0 := B.out.c 0 _ rfl; have b1 := B.out.c 1 _ rfl; have b2 := B.out.c 2 _ rfl; have b3 := B.out.c 3 _ rfl; have b4 := B.out.c 4 _ rfl; have b5 := B.out.c 5 _ rfl; have b6 := B.out.c 6 _ rfl
    have bz := B.out.lt
    go_enter Tryz.func52, Tryz.ntmps52
    go_wp2_with fail
    clear hW0 hz
    refine (ref11_Head H.out HH.out).mono ?_
    rintro e w2 ⟨rfl, x2⟩
    go_wp2_with fail
    go_ret2
    exact RowAns.mk (a := none) (cap := 0) rfl (fun i hi => absurd hi (Nat.not_lt_zero _)) ((X.out.trans x2).alloc _)

set_option maxHeartbeats 4000000 in
theorem ref11_SameInts {a b : Option Addr} {ca cb : Nat} (ha : At .i64 w a xs) (hb : At .i64 w b xs) (hm : xs.length ≤ 1000000) :
    Calls Tryz.prog 35 #[.slice a xs.length ca, .slice b xs.length cb] w fun e w' => e = .returned (.bool true) ∧ Ext w w' := by
  have HA := Lib.hid ha; have HB := Lib.hid hb
  obtain ⟨n, hn⟩ : ∃ n, xs.length = n := ⟨_, rfl⟩
  rw [hn] at hm ⊢
  have HN := Lib.hid hn
  clear ha hb hn
  go_enter Tryz.func35, Tryz.ntmps35
  go_upto_region 4 with fail
  go_loopw [5] (fun iv wr => ∃ i : Nat, i ≤ n ∧ iv = .int .i64 i ∧ Hid (Ext w wr)) (fun iv _ => n - (intOf iv).toNat)
  case atStart => exact ⟨0, Nat.zero_le _, rfl, Lib.hid (Ext.refl _)⟩
  case round =>
    obtain ⟨i, hi, rfl, X⟩ := hrel
    by_cases hlt : i < n
    · obtain ⟨pa, oa, rfl, ac⟩ := HA.out.pos (by rw [HN.out]; omega)
      obtain ⟨pb, ob, rfl, bc⟩ := HB.out.pos (by rw [HN.out]; omega)
      have c0 := X.out.cell (ac i (by rw [HN.out]; exact hlt))
      have c1 := X.out.cell (bc i (by rw [HN.out]; exact hlt))
      clear ac bc
      have i0 : (0 : Int) ≤ (i : Int) := Int.natCast_nonneg _
      have i1 : (i : Int) < (n : Int) := by omega
      generalize nth xs i = v at *
      have tv : (v != v) = false := by simp
      go_upto_region 6 with fail
      have d0 := fun d os => cell_regrown c0 d os; have d1 := fun d os => cell_regrown c1 d os
      clear c0 c1
      refine wp_region_quiet_below (by kernel_rfl) (by kernel_rfl) ?_
      repeat (any_goals (first | go_big_quiet_step (fail) | quiet_step (fail)))
      refine wpQuiet_nil ?_
      intro _ hw'
      obtain ⟨⟨dq, osq⟩, hw''⟩ := hw'
      obtain ⟨WQ, hWQ⟩ := grown_ex hw''
      have xq := hWQ.2
      obtain rfl := hWQ.1
      clear hw'' hWQ
      clear d0 d1
      replace X := Lib.hid (X.out.trans xq)
      go_wp2_with fail
      go_roundw
      case rel => exact ⟨i + 1, by omega, by go_num, X⟩
      case measure => simp [intOf]; omega
    · have t1 : decide (i < n) = false := decide_eq_false hlt
      have t1' : decide ((i : Int) < (n : Int)) = false := decide_eq_false (by omega)
      clear hlt
      go_wp2_with fail
      go_ret
      exact ⟨rfl, X.out⟩

end Go.Proofs.YtnbngcagnchkdaaGreatDoor
