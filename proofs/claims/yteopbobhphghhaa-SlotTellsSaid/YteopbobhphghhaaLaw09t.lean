/-
  The walk of commonagelaw09.SlotTells.
-/
import Derived.Test.YteopbobhphghhaaLaw09e
namespace Go.Proofs.Yteopbobhphghhaa
open Go.RowKit

set_option maxRecDepth 100000 in
set_option maxHeartbeats 32000000 in
theorem law09_SlotTells {ca ta : Option Addr} {cc tc : Nat} (c : Conf) (tn xs xc xp xa : Int) (w : World) (h : CfgAt w ca ta cc tc c) :
    Calls Try.prog 7 #[.agg #[.slice ca c.cl.length cc, .int .i64 c.page, .slice ta c.ts.length tc, .int .i64 c.wk, .int .i64 c.gr, .int .i64 c.gens], .int .i64 tn, .agg #[.int .i64 xs, .int .i64 xc, .int .i64 xp, .int .i64 xa]] w fun e w' => e = .returned (.bool true) ∧ Ext w w' := by
  have h1 := (Ext.refl (w.alloc (.cells #[.slice ca c.cl.length cc, .int .i64 c.page, .slice ta c.ts.length tc, .int .i64 c.wk, .int .i64 c.gr, .int .i64 c.gens] 25))).alloc (.cells #[.int .i64 xs, .int .i64 xc, .int .i64 xp, .int .i64 xa] 61)
  have hx := (Ext.refl w).alloc (.cells #[.slice ca c.cl.length cc, .int .i64 c.page, .slice ta c.ts.length tc, .int .i64 c.wk, .int .i64 c.gr, .int .i64 c.gens] 25)
  have BX : Hid (∀ i u, #[Value.int .i64 xs, .int .i64 xc, .int .i64 xp, .int .i64 xa][i]? = some u → ((w.alloc (.cells #[.slice ca c.cl.length cc, .int .i64 c.page, .slice ta c.ts.length tc, .int .i64 c.wk, .int .i64 c.gr, .int .i64 c.gens] 25)).alloc (.cells #[.int .i64 xs, .int .i64 xc, .int .i64 xp, .int .i64 xa] 61)).cell? ⟨w.heap.size + 1, i, none⟩ = some u) := Lib.hid fun i u hu => by
    have := cell_newN (w.alloc (.cells #[.slice ca c.cl.length cc, .int .i64 c.page, .slice ta c.ts.length tc, .int .i64 c.wk, .int .i64 c.gr, .int .i64 c.gens] 25)) #[.int .i64 xs, .int .i64 xc, .int .i64 xp, .int .i64 xa] 61 i
    rw [hu] at this
    rw [show w.heap.size + 1 = (w.alloc (.cells #[.slice ca c.cl.length cc, .int .i64 c.page, .slice ta c.ts.length tc, .int .i64 c.wk, .int .i64 c.gr, .int .i64 c.gens] 25)).heap.size by simp]
    exact this
  have X2 := Lib.hid (Ext.refl ((w.alloc (.cells #[.slice ca c.cl.length cc, .int .i64 c.page, .slice ta c.ts.length tc, .int .i64 c.wk, .int .i64 c.gr, .int .i64 c.gens] 25)).alloc (.cells #[.int .i64 xs, .int .i64 xc, .int .i64 xp, .int .i64 xa] 61)))
  have H := Lib.hid h
  clear h
  obtain ⟨b0, b1, b2, b3, b4, b5⟩ := box6 h1
  cases hg : bigC c
  · have HG := Lib.hid hg
    clear hg
    by_cases hth : there c tn 0
    · obtain ⟨i, j0, rfl, hj0, hi, hj, ho⟩ := there_nat hth
      have H0 := Lib.hid hth.1
      have HO := Lib.hid ho
      have t1 := ho.head.2.2.1
      have t8 := ho.head.2.2.2.1
      have c8 := ho.cl.most
      have SN := Lib.hid (ho.nS_eq hi).symm
      have GN := Lib.hid (ho.nG_eq hi).symm
      have WN : Hid (sG c i c.cl.length * c.page = wordsOf c i) := Lib.hid (sG_words i _).symm
      clear hth ho hj0 hj
      go_enter Try.func7, Try.ntmps7
      go_wp2_with fail
      clear b0 b1 b2 b3 b4 b5
      refine (law09_great c false HG.out (H.out.ext (hx.trans h1))).mono ?_
      rintro e wX ⟨rfl, h2⟩
      replace h1 := h1.trans h2
      replace X2 := Lib.hid (X2.out.trans h2)
      clear h2
      obtain ⟨b0, b1, b2, b3, b4, b5⟩ := box6 h1
      go_wp2_with fail
      clear b0 b1 b2 b3 b4 b5
      refine (slot_New c i H0.out hi (H.out.ext (hx.trans h1))).mono ?_
      rintro e w2 ⟨b, gp, rfl, hp, x⟩
      have HP := Lib.hid hp
      replace h1 := h1.trans x; replace X2 := Lib.hid (X2.out.trans x)
      clear hp x
      obtain ⟨b0, b1, b2, b3, b4, b5⟩ := box6 h1
      go_wp2_with fail
      clear b0 b1 b2 b3 b4 b5
      refine (ref09_New c i H0.out hi (H.out.ext (hx.trans h1))).mono ?_
      rintro e w3 ⟨lb, lc, fb, fc, mb, mc, ka, kc, rfl, hd, x⟩
      have HD := Lib.hid hd
      replace HP := Lib.hid (HP.out.ext x)
      replace h1 := h1.trans x; replace X2 := Lib.hid (X2.out.trans x)
      clear hd x
      unfold dpv
      have QX : Hid (∀ j u, (#[Value.slice (some ⟨lb, 0, none⟩) (nS c i) lc, .slice (some ⟨fb, 0, none⟩) (nG c i) fc, .slice (some ⟨mb, 0, none⟩) (nG c i) mc, .int .i64 (wordsOf c i), .slice ka c.cl.length kc] : Array Value)[j]? = some u → (w3.alloc (.cells #[.slice (some ⟨lb, 0, none⟩) (nS c i) lc, .slice (some ⟨fb, 0, none⟩) (nG c i) fc, .slice (some ⟨mb, 0, none⟩) (nG c i) mc, .int .i64 (wordsOf c i), .slice ka c.cl.length kc] 67)).cell? ⟨w3.heap.size, j, none⟩ = some u) := Lib.hid fun j u hu => by rw [cell_newN]; exact hu
      have x3 := X2.out.cell (BX.out 3 _ rfl)
      have lz : w.heap.size + 1 < w3.heap.size := cell_lt x3
      go_wp2_with fail
      have xa4 := (Ext.refl w3).alloc (.cells #[.slice (some ⟨lb, 0, none⟩) (nS c i) lc, .slice (some ⟨fb, 0, none⟩) (nG c i) fc, .slice (some ⟨mb, 0, none⟩) (nG c i) mc, .int .i64 (wordsOf c i), .slice ka c.cl.length kc] 67)
      have X4 := Lib.hid (hx.trans (((Ext.refl _).alloc _).trans (X2.out.trans xa4)))
      have Y4 := Lib.hid (Ext.refl (w3.alloc (.cells #[.slice (some ⟨lb, 0, none⟩) (nS c i) lc, .slice (some ⟨fb, 0, none⟩) (nG c i) fc, .slice (some ⟨mb, 0, none⟩) (nG c i) mc, .int .i64 (wordsOf c i), .slice ka c.cl.length kc] 67)))
      replace X2 := Lib.hid (X2.out.trans xa4)
      have X24 := Lib.hid X2.out
      have X44 := Lib.hid X4.out
      replace HP := Lib.hid (HP.out.ext xa4); replace HD := Lib.hid (HD.out.ext xa4)
      clear x3 lz xa4 h1
      generalize w3.heap.size = zq at *
      generalize w3.alloc (.cells #[.slice (some ⟨lb, 0, none⟩) (nS c i) lc, .slice (some ⟨fb, 0, none⟩) (nG c i) fc, .slice (some ⟨mb, 0, none⟩) (nG c i) mc, .int .i64 (wordsOf c i), .slice ka c.cl.length kc] 67) = w4 at *
      obtain ⟨r, q, ca1, hat⟩ := slot_AtX (a := xa) HP.out
      have CA1 := Lib.hid ca1; have HAT := Lib.hid hat
      clear ca1 hat
      refine CA1.out.mono ?_
      rintro e w5 ⟨rfl, x⟩
      replace X2 := Lib.hid (X2.out.trans x); replace X4 := Lib.hid (X4.out.trans x); replace Y4 := Lib.hid (Y4.out.trans x)
      clear x CA1
      have x3 := X2.out.cell (BX.out 3 _ rfl)
      have q0 := Y4.out.cell (QX.out 0 _ rfl); have q1 := Y4.out.cell (QX.out 1 _ rfl); have q2 := Y4.out.cell (QX.out 2 _ rfl); have q3 := Y4.out.cell (QX.out 3 _ rfl); have q4 := Y4.out.cell (QX.out 4 _ rfl)
      go_wp2_with fail
      clear q0 q1 q2 q3 q4 x3
      refine (ref09_At (lc := lc) (fc := fc) (mc := mc) (cc := kc) (HD.out.ext Y4.out) HAT.out).mono ?_
      rintro e w6 ⟨rfl, x⟩
      replace X2 := Lib.hid (X2.out.trans x); replace X4 := Lib.hid (X4.out.trans x); replace Y4 := Lib.hid (Y4.out.trans x)
      clear x
      obtain ⟨of, om, oe, OF1, OF2⟩ : ∃ of om oe : Int, Hid (∀ W, Ext w4 W → Calls Try.prog 28 #[.pointer (some ⟨b, 0, none⟩), .int .i64 xc] W fun e w' => e = .returned (.tuple #[.int .i64 of, .int .i64 om, .int .i64 oe]) ∧ Ext W w') ∧
          Hid (∀ W, Ext w4 W → Calls Try.prog 29 #[dpv lb lc fb fc mb mc ka kc c i, .int .i64 xc] W fun e w' => e = .returned (.tuple #[.int .i64 of, .int .i64 om, .int .i64 oe]) ∧ Ext W w') := by
        by_cases k0 : xc < 0
        · exact ⟨0, 0, 2, fun W hW => slot_Of_neg (HP.out.ext hW) k0, fun W hW => ref09_Of_no (HD.out.ext hW) (.inl k0)⟩
        · by_cases k1 : (c.cl.length : Int) ≤ xc
          · exact ⟨0, 0, 2, fun W hW => slot_Of_no (HP.out.ext hW) k1, fun W hW => ref09_Of_no (HD.out.ext hW) (.inr k1)⟩
          · obtain ⟨k, rfl⟩ : ∃ k : Nat, xc = k := ⟨xc.toNat, by omega⟩
            have hk : k < c.cl.length := by omega
            exact ⟨_, _, 0, fun W hW => slot_Of (HP.out.ext hW) hk, fun W hW => ref09_Of (HD.out.ext hW) hk⟩
      have x1 := X2.out.cell (BX.out 1 _ rfl)
      go_wp2_with fail
      clear x1
      refine (OF1.out _ Y4.out).mono ?_
      rintro e w7 ⟨rfl, x⟩
      replace X2 := Lib.hid (X2.out.trans x); replace X4 := Lib.hid (X4.out.trans x); replace Y4 := Lib.hid (Y4.out.trans x)
      clear x OF1
      have x1 := X2.out.cell (BX.out 1 _ rfl)
      have q0 := Y4.out.cell (QX.out 0 _ rfl); have q1 := Y4.out.cell (QX.out 1 _ rfl); have q2 := Y4.out.cell (QX.out 2 _ rfl); have q3 := Y4.out.cell (QX.out 3 _ rfl); have q4 := Y4.out.cell (QX.out 4 _ rfl)
      go_wp2_with fail
      clear q0 q1 q2 q3 q4 x1
      refine (OF2.out _ Y4.out).mono ?_
      rintro e w8 ⟨rfl, x⟩
      replace X2 := Lib.hid (X2.out.trans x); replace X4 := Lib.hid (X4.out.trans x); replace Y4 := Lib.hid (Y4.out.trans x)
      clear x OF2
      go_wp2_with fail
      have q0 := Y4.out.cell (QX.out 0 _ rfl); have q1 := Y4.out.cell (QX.out 1 _ rfl); have q3 := Y4.out.cell (QX.out 3 _ rfl)
      have XX : Ext w4 w8 := Y4.out
      have XD : Ext w4 w8.drew := XX.drew
      go_region_held3 (fun w' => w'.cell? ⟨zq, 0, none⟩ = some (.slice (some ⟨lb, 0, none⟩) (nS c i) lc) ∧ w'.cell? ⟨zq, 1, none⟩ = some (.slice (some ⟨fb, 0, none⟩) (nG c i) fc) ∧ w'.cell? ⟨zq, 3, none⟩ = some (.int .i64 (wordsOf c i)))
        (first | go_keep | (go_split_ands; exact ⟨hE.cell (by assumption), hE.cell (by assumption), hE.cell (by assumption)⟩))
        ((first
          | (go_at_call 30; refine (slot_SlotsV _ SN.out (HP.out.ext ?_)).mono ?_; assumption; rintro e w9 ⟨rfl, rfl⟩)
          | (go_at_call 31; refine (slot_PagesV _ GN.out (HP.out.ext ?_)).mono ?_; assumption; rintro e w9 ⟨rfl, rfl⟩)
          | (go_at_call 32; refine (slot_WordsV _ WN.out (HP.out.ext ?_)).mono ?_; assumption; rintro e w9 ⟨rfl, hE⟩; have hX9 : Ext w4 w9 := Ext.trans (by assumption) hE)))
      all_goals
        clear q0 q1 q3 XX XD
        have q0 := hX9.cell (QX.out 0 _ rfl); have q1 := hX9.cell (QX.out 1 _ rfl); have q2 := hX9.cell (QX.out 2 _ rfl); have q3 := hX9.cell (QX.out 3 _ rfl); have q4 := hX9.cell (QX.out 4 _ rfl)
        have x0 := (X24.out.trans hX9).cell (BX.out 0 _ rfl)
        go_wp2_with fail
        clear q0 q1 q2 q3 q4 x0
        refine (law09_one (lc := lc) (fc := fc) (mc := mc) (cc := kc) (HP.out.ext hX9) (HD.out.ext hX9)).mono ?_
        rintro e w10 ⟨rfl, x⟩
        have hX10 := hX9.trans x
        clear x
        have q0 := hX10.cell (QX.out 0 _ rfl); have q1 := hX10.cell (QX.out 1 _ rfl); have q2 := hX10.cell (QX.out 2 _ rfl); have q3 := hX10.cell (QX.out 3 _ rfl); have q4 := hX10.cell (QX.out 4 _ rfl)
        have x2 := (X24.out.trans hX10).cell (BX.out 2 _ rfl)
        go_wp2_with fail
        clear q0 q1 q2 q3 q4 x2
        refine (law09_page (lc := lc) (fc := fc) (mc := mc) (cc := kc) (HP.out.ext hX10) (HD.out.ext hX10)).mono ?_
        rintro e w11 ⟨rfl, x⟩
        have hX11 := Lib.hid (X44.out.trans (hX10.trans x))
        clear x
        go_wp2_with fail
        refine (law09_awake _).mono ?_
        rintro e w12 ⟨rfl, x⟩
        go_wp2_with fail
        go_ret
        exact ⟨rfl, hX11.out.trans x⟩
    · have R := Lib.hid hth
      clear hth
      go_enter Try.func7, Try.ntmps7
      go_wp2_with fail
      clear b0 b1 b2 b3 b4 b5
      refine (law09_great c false HG.out (H.out.ext (hx.trans h1))).mono ?_
      rintro e wX ⟨rfl, h2⟩
      replace h1 := h1.trans h2
      replace X2 := Lib.hid (X2.out.trans h2)
      clear h2
      obtain ⟨b0, b1, b2, b3, b4, b5⟩ := box6 h1
      go_wp2_with fail
      clear b0 b1 b2 b3 b4 b5
      refine (slot_New_no c tn R.out (H.out.ext (hx.trans h1))).mono ?_
      rintro e wX ⟨rfl, h2⟩
      replace h1 := h1.trans h2
      replace X2 := Lib.hid (X2.out.trans h2)
      clear h2
      obtain ⟨b0, b1, b2, b3, b4, b5⟩ := box6 h1
      go_wp2_with fail
      clear b0 b1 b2 b3 b4 b5
      refine (ref09_New_no c tn R.out (H.out.ext (hx.trans h1))).mono ?_
      rintro e wY ⟨rfl, h2⟩
      replace h1 := h1.trans h2
      clear h2
      go_wp2_with fail
      refine (law09_awake _).mono ?_
      rintro e w8 ⟨rfl, x8⟩
      go_wp2_with fail
      go_ret
      exact ⟨rfl, hx.trans (h1.trans (Ext.trans (by repeat (first | with_reducible exact Ext.refl _ | with_reducible refine Ext.drew ?_ | with_reducible refine Ext.drewN ?_ _ | with_reducible refine Ext.alloc ?_ _)) x8))⟩
  · have HG := Lib.hid hg
    clear hg
    go_enter Try.func7, Try.ntmps7
    go_wp2_with fail
    refine (law09_great c true HG.out (H.out.ext (hx.trans h1))).mono ?_
    rintro e wX ⟨rfl, h2⟩
    replace h1 := h1.trans h2
    clear h2 b0 b1 b2 b3 b4 b5
    go_wp2_with fail
    refine (law09_awake _).mono ?_
    rintro e w8 ⟨rfl, x8⟩
    go_wp2_with fail
    go_ret
    exact ⟨rfl, hx.trans (h1.trans x8)⟩

end Go.Proofs.Yteopbobhphghhaa
