/-
  commonageref07: Store, Zero, All.
-/
import Derived.Test.YteopbobhphghhaaRef07c
namespace Go.Proofs.Yteopbobhphghhaa
open Go.RowKit

set_option maxHeartbeats 4000000 in
theorem ref07_Store {P : Nat → Prop} {d cap : Nat} {t a x k : Int} {c : Conf} {ws ws' : List Int} {w : World} (h : DocAt P w d c ws) (hP : ∀ k, P k → k < w.heap.size) (hr : storeR c ws t a x = (ws', k)) :
    Calls Try.prog 53 #[.agg #[.slice (some ⟨d, 0, none⟩) c.ts.length cap], .int .i64 t, .int .i64 a, .int .u64 x] w (DocMade2 P c ws' k w) := by
  obtain ⟨z, hz⟩ : ∃ z, w.heap.size = z := ⟨_, rfl⟩
  have hx := ((Ext.refl w).alloc (.cells #[.slice (some ⟨d, 0, none⟩) c.ts.length cap] 48)).alloc (.cells #[.slice none 0 0] 48)
  have BX := Lib.hid (box_up (box_new w (.slice (some ⟨d, 0, none⟩) c.ts.length cap) 48 hz) ((Ext.refl _).alloc (.cells #[.slice none 0 0] 48)))
  have BR := Lib.hid (box_new (w.alloc (.cells #[.slice (some ⟨d, 0, none⟩) c.ts.length cap] 48)) (.slice none 0 0) 48 (b := z + 1) (by simp [hz]))
  obtain ⟨q, hq⟩ : ∃ q, partErr c t a 1 = q := ⟨_, rfl⟩
  have C1 := Lib.hid (fun W (hw : Ext w W) => ref07_In (cap := cap) q (h.ext hw) hq)
  have H := Lib.hid h; have HP := Lib.hid hP
  have dl := h.lt
  unfold storeR at hr
  by_cases h0 : q = 0
  · subst h0
    rcases partErr_one hq with ⟨e, _⟩ | ⟨e, _⟩ | ⟨_, i, j, rfl, rfl, hi, hj⟩
    · cases e
    · cases e
    rw [hq, if_pos rfl] at hr
    cases hr
    simp only [Int.toNat_natCast]
    have HI := Lib.hid hi; have HJ := Lib.hid hj
    clear h hq hP hi hj
    go_enter Try.func53, Try.ntmps53
    go_wp2_with fail
    refine (C1.out _ hx).mono ?_
    rintro e w1 ⟨rfl, x1⟩
    have z0 := (box_up BX.out x1).1
    have zr := Lib.hid (box_up BR.out x1)
    go_wp2_with fail
    refine (ref07_with (P := P) (H.out.ext (hx.trans x1)) (fun k q => Nat.lt_of_lt_of_le (HP.out k q) (hx.trans x1).size) HI.out HJ.out).mono ?_
    rintro e w2 ⟨d2, cap2, rfl, hd2, lo2, x2⟩
    have DD := Lib.hid hd2
    obtain ⟨q0, qf⟩ := box_up zr.out x2
    have l1 := (hx.trans x1).size
    have bz := cell_lt q0
    have bz1 := cell_lt zr.out.1
    clear hd2
    go_wp2_with fail
    have q1 := World.cell?_setCell_same w2 ⟨z + 1, 0, none⟩ (.slice (some ⟨d2, 0, none⟩) c.ts.length cap2) q0
    refine bodyPost_ret (v := .tuple #[.agg #[.slice (some ⟨d2, 0, none⟩) c.ts.length cap2], .int .i64 0]) (by simp [results, Try.results53, go_sem, q1]) rfl ⟨d2, cap2, rfl, ?_, ?_⟩
    · exact DD.out.off (by omega) q0 (by intro x e; cases e) _
    · exact ((hx.trans x1).trans x2).setCell (p := ⟨z + 1, 0, none⟩) (by show w.heap.size ≤ z + 1; omega) _
  · rw [hq, if_neg h0] at hr
    cases hr
    have t0 : (k != 0) = true := by simpa using h0
    clear h hq hP h0
    go_enter Try.func53, Try.ntmps53
    go_wp2_with fail
    refine (C1.out _ hx).mono ?_
    rintro e w1 ⟨rfl, x1⟩
    have z0 := (box_up BX.out x1).1
    obtain ⟨q0, qf⟩ := box_up BR.out x1
    go_wp2_with fail
    have q1 := World.cell?_setCell_same w1 ⟨z + 1, 0, none⟩ (.slice (some ⟨d, 0, none⟩) c.ts.length cap) q0
    refine bodyPost_ret (v := .tuple #[.agg #[.slice (some ⟨d, 0, none⟩) c.ts.length cap], .int .i64 k]) (by simp [results, Try.results53, go_sem, q1]) rfl ⟨d, cap, rfl, ?_, ?_⟩
    · exact (H.out.ext (hx.trans x1)).off (by omega) q0 (by intro x e; cases e) _
    · exact (hx.trans x1).setCell (p := ⟨z + 1, 0, none⟩) (by show w.heap.size ≤ z + 1; omega) _

theorem ref07_withI {P : Nat → Prop} {d cap i jj : Nat} {a x : Int} {c : Conf} {ws : List Int} {w : World} (ha : a = (jj : Nat)) (h : DocAt P w d c ws) (hP : ∀ k, P k → k < w.heap.size) (hi : i < c.ts.length) (hj : jj < wordsN c i) :
    Calls Try.prog 80 #[.agg #[.slice (some ⟨d, 0, none⟩) c.ts.length cap], .int .i64 i, .int .i64 a, .int .u64 x] w (DocMade P c (ws.set (baseN c i + jj) x) w) := by
  subst ha; exact ref07_with h hP hi hj

/-- What Zero's loop keeps. -/
structure ZeroR (P : Nat → Prop) (w : World) (c : Conf) (ws : List Int) (A z k d cap : Nat) (wr : World) : Prop where
  b0 : wr.cell? ⟨z, 0, none⟩ = some (.slice (some ⟨d, 0, none⟩) c.ts.length cap)
  b1 : wr.frozen? ⟨z, 0, none⟩ = false
  r0 : wr.cell? ⟨z + 1, 0, none⟩ = some (.slice none 0 0)
  r1 : wr.frozen? ⟨z + 1, 0, none⟩ = false
  doc : DocAt P wr d c (zeroL ws A k)
  ext : Ext w wr
  ne : z + 1 ≠ d

set_option maxHeartbeats 8000000 in
theorem ref07_Zero {P : Nat → Prop} {d cap : Nat} {t a n k : Int} {c : Conf} {ws ws' : List Int} {w : World} (h : DocAt P w d c ws) (hP : ∀ k, P k → k < w.heap.size) (hr : zeroR c ws t a n = (ws', k)) (ha : is64 a) (hn : is64 n) :
    Calls Try.prog 52 #[.agg #[.slice (some ⟨d, 0, none⟩) c.ts.length cap], .int .i64 t, .int .i64 a, .int .i64 n] w (DocMade2 P c ws' k w) := by
  obtain ⟨z, hz⟩ : ∃ z, w.heap.size = z := ⟨_, rfl⟩
  have hx := ((Ext.refl w).alloc (.cells #[.slice (some ⟨d, 0, none⟩) c.ts.length cap] 48)).alloc (.cells #[.slice none 0 0] 48)
  obtain ⟨bx, bf⟩ := box_up (box_new w (.slice (some ⟨d, 0, none⟩) c.ts.length cap) 48 hz) ((Ext.refl _).alloc (.cells #[.slice none 0 0] 48))
  obtain ⟨rx, rf⟩ := box_new (w.alloc (.cells #[.slice (some ⟨d, 0, none⟩) c.ts.length cap] 48)) (.slice none 0 0) 48 (b := z + 1) (by simp [hz])
  have t8 := h.ok.head.2.2.2.1
  have tl := h.ok.total_le
  have dl := h.lt
  have RX := Lib.hid rx; have RF := Lib.hid rf; have BX := Lib.hid bx; have BF := Lib.hid bf
  have H := Lib.hid h; have HP := Lib.hid hP
  have D0 := Lib.hid (h.ext hx)
  have FIN : Hid (DocMade2 P c ws k w (.returned (.tuple #[.agg #[.slice (some ⟨d, 0, none⟩) c.ts.length cap], .int .i64 k])) ((w.alloc (.cells #[.slice (some ⟨d, 0, none⟩) c.ts.length cap] 48)).alloc (.cells #[.slice (some ⟨d, 0, none⟩) c.ts.length cap] 48))) :=
    Lib.hid ⟨d, cap, rfl, h.ext (((Ext.refl _).alloc _).alloc _), ((Ext.refl _).alloc _).alloc _⟩
  clear rx rf bx bf
  unfold zeroR at hr
  by_cases hp : partErr c t a n = 0
  · rw [if_pos hp] at hr
    obtain ⟨i, j, m, rfl, rfl, rfl, hi, hj⟩ := partErr_ok hp
    simp only [Int.toNat_natCast] at hr
    cases hr
    have win := h.ok.region_in hi
    have hl := h.len
    obtain ⟨g, rc, h1, _⟩ := (h.ext hx).words1 hi
    have t0 : decide ((i : Int) < 0) = false := by simp
    have t2 : decide (c.ts.length ≤ i) = false := by simp; omega
    have t3 : decide ((j : Int) < 0) = false := by simp
    have t4 : decide ((m : Int) < 0) = false := by simp
    have t5 : decide (wordsN c i < j) = false := by simp; omega
    have t6 : decide ((wordsN c i : Int) - (j : Int) < (m : Int)) = false := by simp; omega
    have w1 : IntKind.i64.wrap ((wordsN c i : Int) - (j : Int)) = (wordsN c i : Int) - (j : Int) := IntWalk.i64_in _ (by omega)
    have HI := Lib.hid hi
    have bx := BX.out
    clear h hp hP FIN
    go_enter Try.func52, Try.ntmps52
    go_wp2_with fail
    clear h1 t0 t2 t3 t4 t5 t6 w1 bx
    have R0 : Hid (ZeroR P w c ws (baseN c i + j) z 0 d cap ((w.alloc (.cells #[.slice (some ⟨d, 0, none⟩) c.ts.length cap] 48)).alloc (.cells #[.slice none 0 0] 48))) :=
      Lib.hid ⟨BX.out, BF.out, RX.out, RF.out, by rw [zeroL_none]; exact D0.out, hx, by omega⟩
    go_loopw [10] (fun kv wr => ∃ k d cap : Nat, k ≤ m ∧ kv = .int .i64 k ∧ Hid (ZeroR P w c ws (baseN c i + j) z k d cap wr)) (fun kv _ => m - (intOf kv).toNat)
    case atStart => exact ⟨0, d, cap, Nat.zero_le _, rfl, R0⟩
    case round =>
      clear R0 D0 BX BF RX RF
      obtain ⟨k, dk, ck, hk, rfl, ZR⟩ := hrel
      have b0 := ZR.out.b0
      by_cases hlt : k < m
      · have ww : IntKind.i64.wrap ((j : Int) + (k : Int)) = (j : Int) + (k : Int) := IntWalk.i64_in _ (by omega)
        have ZS := Lib.hid (zeroL_succ (ws := ws) (a := baseN c i + j) (n := k) (by omega))
        have CW := Lib.hid (ref07_withI (P := P) (cap := ck) (a := (j : Int) + (k : Int)) (jj := j + k) (x := 0) (by omega) ZR.out.doc (fun k q => Nat.lt_of_lt_of_le (HP.out k q) ZR.out.ext.size) HI.out (by omega))
        go_wp2_with fail
        refine CW.out.mono ?_
        rintro e w2 ⟨d2, c2, rfl, hd2, lo2, x2⟩
        have bl : z < wr.heap.size := cell_lt b0
        have rl : z + 1 < wr.heap.size := cell_lt ZR.out.r0
        have z1 := x2.cell b0
        have z2 := x2.frozenAt b0 ZR.out.b1
        have r0 := x2.cell ZR.out.r0
        have ZN : Hid (ZeroR P w c ws (baseN c i + j) z (k + 1) d2 c2 (w2.setCell ⟨z, 0, none⟩ (.slice (some ⟨d2, 0, none⟩) c.ts.length c2))) := Lib.hid
          ⟨World.cell?_setCell_same _ _ _ z1, by simpa using z2, by rw [cell_far _ _ _ _ (show z ≠ z + 1 by omega)]; exact r0, by simpa using x2.frozenAt ZR.out.r0 ZR.out.r1,
            by rw [ZS.out, Nat.add_assoc]; exact hd2.off (by omega) z1 (by intro x e; cases e) _, (ZR.out.ext.trans x2).setCell (p := ⟨z, 0, none⟩) (by show w.heap.size ≤ z; omega) _, by omega⟩
        clear hd2 CW ZS ww r0
        go_wp2_with fail
        go_roundw
        case rel => exact ⟨k + 1, d2, c2, by omega, by go_num, ZN⟩
        case measure => simp [intOf]; omega
      · obtain rfl : k = m := by omega
        have r0 := ZR.out.r0
        have r1 := ZR.out.r1
        have q1 := World.cell?_setCell_same wr ⟨z + 1, 0, none⟩ (.slice (some ⟨dk, 0, none⟩) c.ts.length ck) r0
        go_wp2_with fail
        refine bodyPost_ret (v := .tuple #[.agg #[.slice (some ⟨dk, 0, none⟩) c.ts.length ck], .int .i64 0]) (by simp [results, Try.results52, go_sem, q1]) rfl ⟨dk, ck, rfl, ?_, ?_⟩
        · exact ZR.out.doc.off ZR.out.ne r0 (by intro x e; cases e) _
        · exact ZR.out.ext.setCell (p := ⟨z + 1, 0, none⟩) (by show w.heap.size ≤ z + 1; omega) _
  · rw [if_neg hp] at hr
    obtain ⟨rfl, hk⟩ : ws = ws' ∧ partErr c t a n = k := by injection hr with e1 e2; exact ⟨e1, e2⟩
    rw [hk] at hp
    have bx := BX.out
    have rf := RF.out
    have rx := RX.out
    clear hP ha hn hr D0 BX BF RX RF HP H
    unfold partErr at hk
    by_cases ht : t < 0 ∨ (c.ts.length : Int) ≤ t
    · rw [if_pos ht] at hk
      subst hk
      clear h hp hz
      by_cases h0 : t < 0
      · have t0 : decide (t < 0) = true := by simpa using h0
        clear ht
        go_enter Try.func52, Try.ntmps52
        go_wp2_with fail
        exact bodyPost_ret (v := .tuple #[.agg #[.slice (some ⟨d, 0, none⟩) c.ts.length cap], .int .i64 2]) (by simp [results, Try.results52, go_sem]) rfl FIN.out
      · have t0 : decide (t < 0) = false := by simpa using h0
        have t1 : decide ((c.ts.length : Int) ≤ t) = true := by simp; omega
        clear ht
        go_enter Try.func52, Try.ntmps52
        go_wp2_with fail
        exact bodyPost_ret (v := .tuple #[.agg #[.slice (some ⟨d, 0, none⟩) c.ts.length cap], .int .i64 2]) (by simp [results, Try.results52, go_sem]) rfl FIN.out
    · rw [if_neg ht] at hk
      obtain ⟨i, rfl⟩ : ∃ i : Nat, t = i := ⟨t.toNat, by omega⟩
      rw [Int.toNat_natCast] at hk
      have hi : i < c.ts.length := by omega
      obtain ⟨g, rc, h1, _⟩ := (h.ext hx).words1 hi
      have win := h.ok.region_in hi
      clear h ht
      generalize wordsN c i = m at *
      have hb : a < 0 ∨ n < 0 ∨ (m : Int) < a ∨ (m : Int) - a < n := by
        by_cases c0 : a < 0 ∨ n < 0 ∨ (m : Int) < a ∨ (m : Int) - a < n
        · exact c0
        · rw [if_neg c0] at hk; exact absurd hk.symm hp
      rw [if_pos hb] at hk
      subst hk
      have t0 : decide ((i : Int) < 0) = false := by simp
      have t2 : decide (c.ts.length ≤ i) = false := by simp; omega
      clear hp
      by_cases c0 : a < 0
      · have t3 : decide (a < 0) = true := by simpa using c0
        clear hb c0
        go_enter Try.func52, Try.ntmps52
        go_wp2_with fail
        exact bodyPost_ret (v := .tuple #[.agg #[.slice (some ⟨d, 0, none⟩) c.ts.length cap], .int .i64 4]) (by simp [results, Try.results52, go_sem, ← hz]) rfl FIN.out
      · have t3 : decide (a < 0) = false := by simpa using c0
        by_cases c1 : n < 0
        · have t4 : decide (n < 0) = true := by simpa using c1
          clear hb c0 c1
          go_enter Try.func52, Try.ntmps52
          go_wp2_with fail
          exact bodyPost_ret (v := .tuple #[.agg #[.slice (some ⟨d, 0, none⟩) c.ts.length cap], .int .i64 4]) (by simp [results, Try.results52, go_sem, ← hz]) rfl FIN.out
        · have t4 : decide (n < 0) = false := by simpa using c1
          by_cases c2 : (m : Int) < a
          · have t5 : decide ((m : Int) < a) = true := by simpa using c2
            clear hb c0 c1 c2
            go_enter Try.func52, Try.ntmps52
            go_wp2_with fail
            exact bodyPost_ret (v := .tuple #[.agg #[.slice (some ⟨d, 0, none⟩) c.ts.length cap], .int .i64 4]) (by simp [results, Try.results52, go_sem, ← hz]) rfl FIN.out
          · have t5 : decide ((m : Int) < a) = false := by simpa using c2
            have t6 : decide ((m : Int) - a < n) = true := by simp; omega
            have ww : IntKind.i64.wrap ((m : Int) - a) = (m : Int) - a := IntWalk.i64_in _ (by omega)
            clear hb c0 c1 c2
            go_enter Try.func52, Try.ntmps52
            go_wp2_with fail
            exact bodyPost_ret (v := .tuple #[.agg #[.slice (some ⟨d, 0, none⟩) c.ts.length cap], .int .i64 4]) (by simp [results, Try.results52, go_sem, ← hz]) rfl FIN.out

end Go.Proofs.Yteopbobhphghhaa
