/-
  The walk of commonagelaw06.ConfMore.
-/
import Derived.Test.YtcnaabkimgkpbaaLaw06a
import Derived.Test.YtcnaabkimgkpbaaLaw06Q
import Derived.Test.YtcnaabkimgkpbaaLaw06b
import Derived.Test.YtcnaabkimgkpbaaMoreO
import Derived.Deep.DeepCutAuto
import Derived.Deep.RegionHeld3
import Derived.Deep.RegionLawGrows
import Derived.Deep.AppendLies
namespace Go.Proofs.Ytcnaabkimgkpbaa
open Go.RowKit

set_option maxRecDepth 100000 in
set_option maxHeartbeats 4000000 in
theorem law06_ConfMore {ca ta : Option Addr} {cc tc : Nat} (c : Conf) (tn quota : Int) (w : World) (htn : 0 ≤ tn ∧ tn ≤ 255) (h : CfgAt w ca ta cc tc c) :
    Calls Try.prog 7 #[.agg #[.slice ca c.cl.length cc, .int .i64 c.page, .slice ta c.ts.length tc, .int .i64 c.wk, .int .i64 c.gr, .int .i64 c.gens], .int .u8 tn, .int .i64 quota] w fun e w' => e = .returned (.bool true) ∧ Ext w w' := by
  obtain ⟨i0, hi0, hz0, hz1, hz2⟩ := info_parts info_ten
  have h1 := Ext.refl (w.alloc (.cells #[.slice ca c.cl.length cc, .int .i64 c.page, .slice ta c.ts.length tc, .int .i64 c.wk, .int .i64 c.gr, .int .i64 c.gens] 36))
  have hx := (Ext.refl w).alloc (.cells #[.slice ca c.cl.length cc, .int .i64 c.page, .slice ta c.ts.length tc, .int .i64 c.wk, .int .i64 c.gr, .int .i64 c.gens] 36)
  have tm := h.tm
  have cm := h.cm
  unfold maxLen at tm cm
  obtain ⟨t0, t255⟩ := htn
  have H := Lib.hid h; clear h
  by_cases hs : c.cl.length ≤ 50 ∧ c.ts.length ≤ 50
  · have HS := Lib.hid (show decide (c.cl.length ≤ 50 ∧ c.ts.length ≤ 50) = true by simpa using hs)
    clear hs
    by_cases h0 : kcheck c = 0
    · have ho := kcheck_ok h0
      have H0 := Lib.hid h0
      have HO := Lib.hid ho
      obtain ⟨i, hmod, hi⟩ := mod_nat (tn := tn) ho.head.2.2.1
      have t1 := ho.head.2.2.1
      have t8 := ho.head.2.2.2.1
      have c8 := ho.cl.most
      have c1 := ho.cl.pos
      clear h0 ho
      obtain ⟨tb, to_, rfl, ht⟩ := H.out.ts.pos (by omega)
      have HT := Lib.hid ht
      clear ht
      go_enter Try.func7, Try.ntmps7
      go_wp2_with fail
      try clear b0 b1 b2 b3 b4 b5
      refine (ref06_Small c true HS.out (H.out.ext (hx.trans h1))).mono ?_
      rintro e w1 ⟨rfl, h2⟩
      replace h1 := h1.trans h2
      clear h2
      obtain ⟨b0, b1, b2, b3, b4, b5⟩ := box6 h1
      go_wp2_with fail
      try clear b0 b1 b2 b3 b4 b5
      refine (conf_Check' c 0 H0.out (H.out.ext (hx.trans h1))).mono ?_
      rintro e w2 ⟨rfl, h2⟩
      replace h1 := h1.trans h2
      clear h2
      obtain ⟨b0, b1, b2, b3, b4, b5⟩ := box6 h1
      go_wp2_with fail
      have HN := Lib.hid (tcs_news (w := w2) (b := tb) (o := to_) (ts := c.ts) fun i hi => by
        obtain ⟨e0, e1, e2, e3⟩ := HT.out i hi
        exact ⟨(hx.trans h1).cell e0, (hx.trans h1).cell e1, (hx.trans h1).cell e2, (hx.trans h1).cell e3⟩)
      have HM1 : Hid (0 + c.ts.length ≤ maxLen) := Lib.hid (by unfold maxLen; omega)
      have HM2 : Hid ((0 + c.ts.length) * 32 ≤ 140737488355328) := Lib.hid (by omega)
      obtain ⟨b0, b1, b2, b3, b4, b5⟩ := box6 h1
      have hw2 : w.heap.size < w2.heap.size := cell_lt b0
      have n0 := World.new_ne w2 _ b0
      have n1 := World.new_ne w2 _ b1
      have n2 := World.new_ne w2 _ b2
      have n3 := World.new_ne w2 _ b3
      have n4 := World.new_ne w2 _ b4
      have n5 := World.new_ne w2 _ b5
      rw [hmod]
      have HMOD := Lib.hid hmod; clear hmod
      go_cut [8] (fun s8 wx => MoreO w (w.alloc (.cells #[.slice ca c.cl.length cc, .int .i64 c.page, .slice (some ⟨tb, to_, none⟩) c.ts.length tc, .int .i64 c.wk, .int .i64 c.gr, .int .i64 c.gens] 36)) c ca cc s8 wx)
      case first =>
        go_region_held3 (fun w' => w'.cell? ⟨w.heap.size, 0, none⟩ = some (.slice ca c.cl.length cc) ∧ w'.cell? ⟨w.heap.size, 1, none⟩ = some (.int .i64 c.page) ∧ w'.cell? ⟨w.heap.size, 2, none⟩ = some (.slice (some ⟨tb, to_, none⟩) c.ts.length tc) ∧ w'.cell? ⟨w.heap.size, 3, none⟩ = some (.int .i64 c.wk) ∧ w'.cell? ⟨w.heap.size, 4, none⟩ = some (.int .i64 c.gr) ∧ w'.cell? ⟨w.heap.size, 5, none⟩ = some (.int .i64 c.gens)) ((first | (go_split_ands; with_reducible exact ⟨far6 (by omega) d0, far6 (by omega) d1, far6 (by omega) d2, far6 (by omega) d3, far6 (by omega) d4, far6 (by omega) d5⟩) | go_keep | (go_split_ands; refine ⟨?_, ?_, ?_, ?_, ?_, ?_⟩ <;> (first | assumption | exact ((Ext.refl _).alloc _).cell (by assumption)))))
          (((refine step_append_grows (by rfl) (.tmp 42) (.tmp 44) 34 (by rfl) 42 i0 (.agg #[.int .i64 0, .int .i64 0, .int .i64 0, .int .i64 0]) 4 32 Try.underlying34 hi0 hz0 hz1 hz2 rfl (by decide) _ 0 0 [] (by simp [Act.eval, Act.put]; rfl) (fun _ => ⟨rfl, rfl⟩) rfl (fun _ _ j u hj => by simp at hj) ⟨tb, to_, none⟩ c.ts.length tc (tcs c.ts) (by simp [Act.eval, Act.put]) (tcs_len _) (fun j u hj => Ext.cell (w := w2) (by repeat (first | exact Ext.refl _ | refine Ext.alloc ?_ _ | refine Ext.drew ?_)) (HN.out j u hj)) (tcs_one _) (by omega) HM1.out HM2.out ?_; intro v' w3 hown hgrow; have hE := Ext.of ((Ext.refl _).below.grown hgrow (Nat.le_refl _) (fun k e => by cases e)); rw [Nat.zero_add, List.nil_append] at hown; obtain ⟨g, gc, rfl, hg1, hg2, _, hg4, hg5, hg6, hg7⟩ := own_tens hown t1; have hX : Ext (w.alloc (.cells #[.slice ca c.cl.length cc, .int .i64 c.page, .slice (some ⟨tb, to_, none⟩) c.ts.length tc, .int .i64 c.wk, .int .i64 c.gr, .int .i64 c.gens] 36)) w3 := Ext.trans (by repeat (first | assumption | refine Ext.alloc ?_ _ | refine Ext.drew ?_)) hE; obtain ⟨d0, d1, d2, d3, d4, d5⟩ := box6 hX; (first | (refine (fun (s8 : Six w3 w2.heap.size (.slice none 0 0) (.int .i64 0) (.slice none 0 0) (.int .i64 0) (.int .i64 0) (.int .i64 0)) => ?_) (Six.ext (Six.mk ?_ ?_ ?_ ?_ ?_ ?_ (fun o => ?_)) hE); rotate_left; (iterate 7 (focus (simp; done))); obtain ⟨q0, q1, q2, q3, q4, q5, qf⟩ := s8; have qf0 := qf 0; have qf1 := qf 1; have qf2 := qf 2; have qf3 := qf 3; have qf4 := qf 4; have qf5 := qf 5) | (refine (fun (s8 : Six w3 (w2.heap.size + 1) (.slice none 0 0) (.int .i64 0) (.slice none 0 0) (.int .i64 0) (.int .i64 0) (.int .i64 0)) => ?_) (Six.ext (Six.mk ?_ ?_ ?_ ?_ ?_ ?_ (fun o => ?_)) hE); rotate_left; (iterate 7 (focus (simp; done))); obtain ⟨q0, q1, q2, q3, q4, q5, qf⟩ := s8; have qf0 := qf 0; have qf1 := qf 1; have qf2 := qf 2; have qf3 := qf 3; have qf4 := qf 4; have qf5 := qf 5) | skip))))
        all_goals
          go_wp2_with fail
          go_meet
          first
            | with_reducible exact MoreO.new hX hg6 hg7 hg2 (by have := hX.size; simp at this hg1; omega) hg4 hg5
            | with_reducible exact MoreO.old hX (Six.mk q0 q1 q2 q3 q4 q5 qf) (by simp; omega) hg6 hg7 (by simp at hg1; omega) (by omega) hg4 hg5
      case rest =>
        clear n0 n1 n2 n3 n4 n5 b0 b1 b2 b3 b4 b5
        obtain ⟨ob, g, gc, rfl, hX, h6, hg6, hg7, hgb, hwb, hwg, hg4, hg5⟩ := hcut
        have HG6 := Lib.hid hg6; have HG7 := Lib.hid hg7; have H6 := Lib.hid h6; have G4 := Lib.hid hg4; have G5 := Lib.hid hg5
        clear hg6 hg7 h6 hg4 hg5
        go_wp2_with fail
        obtain ⟨y, hy⟩ : ∃ y, (tnth c.ts i).q = y := ⟨_, rfl⟩
        obtain ⟨nq, hnq⟩ : ∃ nq, (if y < quota then quota else y) = nq := ⟨_, rfl⟩
        have hynq : y ≤ nq := by rw [← hnq]; split <;> omega
        have HY := Lib.hid hy
        have HYNQ := Lib.hid hynq
        have hcx := HT.out i hi
        have cyi := (hx.trans hX).cell hcx.1
        rw [hy] at cyi
        have htb : tb < w.heap.size := cell_lt hcx.1
        obtain ⟨m0, m1, m2, m3⟩ := HG6.out i hi |>.elim fun b h => h.elim fun o h => by
          obtain ⟨e, h0, h1, h2, h3⟩ := h
          cases e
          rw [Nat.zero_add] at h0 h1 h2 h3
          exact (⟨h0, h1, h2, h3⟩ : _ ∧ _ ∧ _ ∧ _)
        have fg := HG7.out (i * 4)
        obtain ⟨b0, b1, b2, b3, b4, b5⟩ := box6 hX
        have d2 := H6.out.c2
        have hi0 : (0 : Int) ≤ (i : Int) := Int.natCast_nonneg _
        have hi1 : (i : Int) < (c.ts.length : Int) := by omega
        clear hy hynq hcx m1 m2 m3
        go_region_held3 (fun w' => w'.cell? ⟨w.heap.size, 2, none⟩ = some (.slice (some ⟨tb, to_, none⟩) c.ts.length tc) ∧ w'.cell? ⟨ob, 2, none⟩ = some (.slice (some ⟨g, 0, none⟩) c.ts.length gc) ∧ w'.cell? ⟨tb, to_ + i * 4, none⟩ = some (.int .i64 y))
          ((first | (go_split_ands; refine ⟨?_, ?_, ?_⟩ <;> (refine (World.cell?_setCell_far _ _ _ _ ?_).trans (by assumption); simp; omega)) | go_keep))
          (fail)
        clear hnq cyi b0 b1 b2 b3 b4 b5 d2 m0 fg
        have h1 : Ext (w.alloc (.cells #[.slice ca c.cl.length cc, .int .i64 c.page, .slice (some ⟨tb, to_, none⟩) c.ts.length tc, .int .i64 c.wk, .int .i64 c.gr, .int .i64 c.gens] 36)) (wc.setCell ⟨g, i * 4, none⟩ (.int .i64 nq)).drew := (hX.setCell (p := ⟨g, i * 4, none⟩) (by simp; omega) _).drew
        have S5 : Hid (Six (wc.setCell ⟨g, i * 4, none⟩ (.int .i64 nq)).drew ob (.slice ca c.cl.length cc) (.int .i64 c.page) (.slice (some ⟨g, 0, none⟩) c.ts.length gc) (.int .i64 c.wk) (.int .i64 c.gr) (.int .i64 c.gens)) := Lib.hid ((H6.out.far (p := ⟨g, i * 4, none⟩) hgb _).ext (Ext.refl _).drew)
        have T5 : TenAt (wc.setCell ⟨g, i * 4, none⟩ (.int .i64 nq)).drew (some ⟨g, 0, none⟩) (withQuota c i nq).ts := (HG6.out.quota hi nq).ext (Ext.refl _).drew
        have C5 := H.out.ext (hx.trans h1)
        generalize (wc.setCell ⟨g, i * 4, none⟩ (.int .i64 nq)).drew = w5 at *
        have O5 : Hid (∀ W', Ext w5 W' → CfgAt W' ca (some ⟨g, 0, none⟩) cc gc (withQuota c i nq)) := Lib.hid fun W' hz =>
          ⟨(C5.cl).ext hz, T5.ext hz, C5.cm, by rw [withQuota_len]; exact Nat.le_trans G4.out G5.out, C5.ccap, by rw [withQuota_len]; exact G4.out, C5.ccm, G5.out⟩
        have h5 := Ext.refl w5
        clear C5 T5 hX HG6 HG7 H6 HT
        obtain ⟨b0, b1, b2, b3, b4, b5⟩ := box6 h1
        obtain ⟨d0, d1, d2, d3, d4, d5, df⟩ := S5.out.ext h5
        clear df
        have QL := Lib.hid (withQuota_len c i nq)
        go_wp2_with fail
        by_cases hk : kcheck (withQuota c i nq) = 0
        · have K0 := Lib.hid hk
          clear hk
          clear b0 b1 b2 b3 b4 b5 d0 d1 d2 d3 d4 d5
          refine (conf_CheckN (withQuota c i nq) c.ts.length 0 QL.out K0.out (O5.out _ h5)).mono ?_
          rintro e w31 ⟨rfl, h2⟩
          replace h1 := h1.trans h2
          replace h5 := h5.trans h2
          clear h2
          obtain ⟨b0, b1, b2, b3, b4, b5⟩ := box6 h1
          obtain ⟨d0, d1, d2, d3, d4, d5, df⟩ := S5.out.ext h5
          clear df
          go_wp2_with fail
          clear b0 b1 b2 b3 b4 b5 d0 d1 d2 d3 d4 d5
          go_loopw [9] (fun n wr => ∃ k : Nat, k ≤ c.ts.length ∧ n = .int .i64 k ∧ Ext (w.alloc (.cells #[.slice ca c.cl.length cc, .int .i64 c.page, .slice (some ⟨tb, to_, none⟩) c.ts.length tc, .int .i64 c.wk, .int .i64 c.gr, .int .i64 c.gens] 36)) wr ∧ Ext w5 wr) (fun n _ => c.ts.length - (intOf n).toNat)
          case atStart => exact ⟨0, Nat.zero_le _, rfl, h1, h5⟩
          case round =>
            clear h1 h5
            obtain ⟨k, hk, rfl, h1, h5⟩ := hrel
            obtain ⟨wo, rfl⟩ : ∃ wo : World, wo = wr := ⟨_, rfl⟩
            obtain ⟨b0, b1, b2, b3, b4, b5⟩ := box6 h1
            obtain ⟨d0, d1, d2, d3, d4, d5, df⟩ := S5.out.ext h5
            clear df
            by_cases hlt : k < c.ts.length
            · have R1 := Lib.hid (kregion_yes (there_mk (i := k) H0.out hlt c1))
              have R2 := Lib.hid (kregion_yes (c := withQuota c i nq) (i := k) (there_mk (j := 0) K0.out (by rw [QL.out]; exact hlt) c1))
              obtain ⟨l1, l2⟩ := withQuota_all hi (show (tnth c.ts i).q ≤ nq by rw [HY.out]; exact HYNQ.out) HO.out k
              generalize wordsOf c k = p at *
              generalize wordsOf (withQuota c i nq) k = q at *
              have g1 : decide (q < p) = false := by simp; omega
              by_cases hik : i = k
              · subst hik
                clear l2
                go_wp2_with fail
                clear b0 b1 b2 b3 b4 b5 d0 d1 d2 d3 d4 d5
                refine (conf_RegionN c c.ts.length i p 0 rfl R1.out (H.out.ext (hx.trans h1))).mono ?_
                rintro e w32 ⟨rfl, h2⟩
                replace h1 := h1.trans h2
                replace h5 := h5.trans h2
                clear h2
                obtain ⟨b0, b1, b2, b3, b4, b5⟩ := box6 h1
                obtain ⟨d0, d1, d2, d3, d4, d5, df⟩ := S5.out.ext h5
                clear df
                go_wp2_with fail
                clear b0 b1 b2 b3 b4 b5 d0 d1 d2 d3 d4 d5
                refine (conf_RegionN (withQuota c i nq) c.ts.length i q 0 QL.out R2.out (O5.out _ h5)).mono ?_
                rintro e w33 ⟨rfl, h2⟩
                replace h1 := h1.trans h2
                replace h5 := h5.trans h2
                clear h2
                obtain ⟨b0, b1, b2, b3, b4, b5⟩ := box6 h1
                obtain ⟨d0, d1, d2, d3, d4, d5, df⟩ := S5.out.ext h5
                clear df
                go_wp2_with fail
                go_roundw
                case rel => exact ⟨i + 1, by omega, by go_num, h1, h5⟩
                case measure => simp [intOf]; omega
              · obtain rfl := l2 hik
                have g2 : ((k : Int) != (i : Int)) = true := by simp; omega
                have g3 : (k != i) = true := by simp; omega
                clear l2
                go_wp2_with fail
                clear b0 b1 b2 b3 b4 b5 d0 d1 d2 d3 d4 d5
                refine (conf_RegionN c c.ts.length k p 0 rfl R1.out (H.out.ext (hx.trans h1))).mono ?_
                rintro e w34 ⟨rfl, h2⟩
                replace h1 := h1.trans h2
                replace h5 := h5.trans h2
                clear h2
                obtain ⟨b0, b1, b2, b3, b4, b5⟩ := box6 h1
                obtain ⟨d0, d1, d2, d3, d4, d5, df⟩ := S5.out.ext h5
                clear df
                go_wp2_with fail
                clear b0 b1 b2 b3 b4 b5 d0 d1 d2 d3 d4 d5
                refine (conf_RegionN (withQuota c i nq) c.ts.length k p 0 QL.out R2.out (O5.out _ h5)).mono ?_
                rintro e w35 ⟨rfl, h2⟩
                replace h1 := h1.trans h2
                replace h5 := h5.trans h2
                clear h2
                obtain ⟨b0, b1, b2, b3, b4, b5⟩ := box6 h1
                obtain ⟨d0, d1, d2, d3, d4, d5, df⟩ := S5.out.ext h5
                clear df
                go_wp2_with fail
                go_roundw
                case rel => exact ⟨k + 1, by omega, by go_num, h1, h5⟩
                case measure => simp [intOf]; omega
            · go_wp2_with fail
              clear b0 b1 b2 b3 b4 b5 d0 d1 d2 d3 d4 d5
              go_loopw [14] (fun n wr => ∃ j : Nat, j ≤ c.cl.length ∧ n = .int .i64 j ∧ Ext (w.alloc (.cells #[.slice ca c.cl.length cc, .int .i64 c.page, .slice (some ⟨tb, to_, none⟩) c.ts.length tc, .int .i64 c.wk, .int .i64 c.gr, .int .i64 c.gens] 36)) wr ∧ Ext w5 wr) (fun n _ => c.cl.length - (intOf n).toNat)
              case atStart => exact ⟨0, Nat.zero_le _, rfl, h1, h5⟩
              case round =>
                clear h1 h5
                obtain ⟨j, hj, rfl, h1, h5⟩ := hrel
                obtain ⟨b0, b1, b2, b3, b4, b5⟩ := box6 h1
                obtain ⟨d0, d1, d2, d3, d4, d5, df⟩ := S5.out.ext h5
                clear df
                by_cases hjlt : j < c.cl.length
                · have S1 := Lib.hid (kslots_yes (there_mk H0.out hi hjlt))
                  have P1 := Lib.hid (kpages_yes (there_mk H0.out hi hjlt))
                  have S2 := Lib.hid (kslots_yes (c := withQuota c i nq) (i := i) (j := j) (there_mk K0.out (by rw [QL.out]; exact hi) hjlt))
                  have P2 := Lib.hid (kpages_yes (c := withQuota c i nq) (i := i) (j := j) (there_mk K0.out (by rw [QL.out]; exact hi) hjlt))
                  have hyq : (tnth c.ts i).q ≤ nq := by rw [HY.out]; exact HYNQ.out
                  have l1 := withQuota_slots hi hyq HO.out hjlt
                  have l2 := withQuota_pages hi hyq HO.out hjlt
                  have bd := HO.out.bounds hi hjlt
                  have u1 := bd.s1; have u2 := bd.pg1
                  clear bd hyq
                  generalize slotsOf c i j = p at *
                  generalize slotsOf (withQuota c i nq) i j = q at *
                  generalize pagesOf c i j = r at *
                  generalize pagesOf (withQuota c i nq) i j = t at *
                  have g1 : decide (q < p) = false := by simp; omega
                  have g2 : decide (t < r) = false := by simp; omega
                  have g3 : decide (p < 1) = false := by simp; omega
                  have g4 : decide (r < 1) = false := by simp; omega
                  go_wp2_with fail
                  clear b0 b1 b2 b3 b4 b5 d0 d1 d2 d3 d4 d5
                  refine (conf_SlotsN c c.ts.length i j p 0 rfl S1.out (H.out.ext (hx.trans h1))).mono ?_
                  rintro e w36 ⟨rfl, h2⟩
                  replace h1 := h1.trans h2
                  replace h5 := h5.trans h2
                  clear h2
                  obtain ⟨b0, b1, b2, b3, b4, b5⟩ := box6 h1
                  obtain ⟨d0, d1, d2, d3, d4, d5, df⟩ := S5.out.ext h5
                  clear df
                  go_wp2_with fail
                  clear b0 b1 b2 b3 b4 b5 d0 d1 d2 d3 d4 d5
                  refine (conf_SlotsN (withQuota c i nq) c.ts.length i j q 0 QL.out S2.out (O5.out _ h5)).mono ?_
                  rintro e w37 ⟨rfl, h2⟩
                  replace h1 := h1.trans h2
                  replace h5 := h5.trans h2
                  clear h2
                  obtain ⟨b0, b1, b2, b3, b4, b5⟩ := box6 h1
                  obtain ⟨d0, d1, d2, d3, d4, d5, df⟩ := S5.out.ext h5
                  clear df
                  go_wp2_with fail
                  clear b0 b1 b2 b3 b4 b5 d0 d1 d2 d3 d4 d5
                  refine (conf_PagesN c c.ts.length i j r 0 rfl P1.out (H.out.ext (hx.trans h1))).mono ?_
                  rintro e w38 ⟨rfl, h2⟩
                  replace h1 := h1.trans h2
                  replace h5 := h5.trans h2
                  clear h2
                  obtain ⟨b0, b1, b2, b3, b4, b5⟩ := box6 h1
                  obtain ⟨d0, d1, d2, d3, d4, d5, df⟩ := S5.out.ext h5
                  clear df
                  go_wp2_with fail
                  clear b0 b1 b2 b3 b4 b5 d0 d1 d2 d3 d4 d5
                  refine (conf_PagesN (withQuota c i nq) c.ts.length i j t 0 QL.out P2.out (O5.out _ h5)).mono ?_
                  rintro e w39 ⟨rfl, h2⟩
                  replace h1 := h1.trans h2
                  replace h5 := h5.trans h2
                  clear h2
                  obtain ⟨b0, b1, b2, b3, b4, b5⟩ := box6 h1
                  obtain ⟨d0, d1, d2, d3, d4, d5, df⟩ := S5.out.ext h5
                  clear df
                  go_wp2_with fail
                  go_roundw
                  case rel => exact ⟨j + 1, by omega, by go_num, h1, h5⟩
                  case measure => simp [intOf]; omega
                · go_wp2_with fail
                  clear b0 b1 b2 b3 b4 b5 d0 d1 d2 d3 d4 d5
                  refine (law06_awake _).mono ?_
                  rintro e w60 ⟨rfl, h2⟩
                  replace h1 := h1.trans h2
                  go_wp2_with fail
                  go_ret
                  exact ⟨rfl, hx.trans h1⟩
        · have K2 := Lib.hid ((kcheck_01 _).resolve_left hk)
          clear hk
          clear b0 b1 b2 b3 b4 b5 d0 d1 d2 d3 d4 d5
          refine (conf_CheckN (withQuota c i nq) c.ts.length 2 QL.out K2.out (O5.out _ h5)).mono ?_
          rintro e w40 ⟨rfl, h2⟩
          replace h1 := h1.trans h2
          replace h5 := h5.trans h2
          clear h2
          obtain ⟨b0, b1, b2, b3, b4, b5⟩ := box6 h1
          obtain ⟨d0, d1, d2, d3, d4, d5, df⟩ := S5.out.ext h5
          clear df
          go_wp2_with fail
          clear b0 b1 b2 b3 b4 b5 d0 d1 d2 d3 d4 d5
          refine (law06_awake _).mono ?_
          rintro e w60 ⟨rfl, h2⟩
          replace h1 := h1.trans h2
          go_wp2_with fail
          go_ret
          exact ⟨rfl, hx.trans h1⟩
    · have h2 : kcheck c = 2 := (kcheck_01 _).resolve_left h0
      have H2 := Lib.hid h2
      clear h0 h2
      go_enter Try.func7, Try.ntmps7
      go_wp2_with fail
      try clear b0 b1 b2 b3 b4 b5
      refine (ref06_Small c true HS.out (H.out.ext (hx.trans h1))).mono ?_
      rintro e w3 ⟨rfl, h2⟩
      replace h1 := h1.trans h2
      clear h2
      obtain ⟨b0, b1, b2, b3, b4, b5⟩ := box6 h1
      go_wp2_with fail
      refine (conf_Check' c 2 H2.out (H.out.ext (hx.trans h1))).mono ?_
      rintro e w4 ⟨rfl, h2⟩
      replace h1 := h1.trans h2
      clear h2
      obtain ⟨b0, b1, b2, b3, b4, b5⟩ := box6 h1
      go_wp2_with fail
      all_goals (try clear b0 b1 b2 b3 b4 b5)
      refine (law06_awake _).mono ?_
      rintro e w5 ⟨rfl, h2⟩
      replace h1 := h1.trans h2
      clear h2
      go_wp2_with fail
      go_ret
      exact ⟨rfl, hx.trans h1⟩
  · have HS := Lib.hid (show decide (c.cl.length ≤ 50 ∧ c.ts.length ≤ 50) = false by simpa using hs)
    clear hs
    go_enter Try.func7, Try.ntmps7
    go_wp2_with fail
    refine (ref06_Small c false HS.out (H.out.ext (hx.trans h1))).mono ?_
    rintro e w6 ⟨rfl, h2⟩
    replace h1 := h1.trans h2
    clear h2
    obtain ⟨b0, b1, b2, b3, b4, b5⟩ := box6 h1
    go_wp2_with fail
    all_goals (try clear b0 b1 b2 b3 b4 b5)
    refine (law06_awake _).mono ?_
    rintro e w7 ⟨rfl, h2⟩
    replace h1 := h1.trans h2
    clear h2
    go_wp2_with fail
    go_ret
    exact ⟨rfl, hx.trans h1⟩

end Go.Proofs.Ytcnaabkimgkpbaa
