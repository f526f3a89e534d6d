/-
  Merged texts: FreshP, Law11q.
-/
import Derived.Test.YtnbngcagnchkdaaGreatDoorQ20
import Derived.Test.YtnbngcagnchkdaaGreatDoorQ15
import Derived.Test.YtnbngcagnchkdaaGreatDoorQ19
import Derived.Test.YtnbngcagnchkdaaGreatDoorQ09
import Derived.IntWalk
import Derived.Test.YtnbngcagnchkdaaGreatDoorQ08
set_option linter.unusedVariables false
set_option linter.unusedSimpArgs false
/-! Fresh objects, and what is set, in plain Lean. -/
namespace Go.Proofs.YtnbngcagnchkdaaGreatDoor
open Go.RowKit
variable {c : Conf} {t : Nat} {ws ws' : List Int}

/-- What SetRef, SetWord of a field of a fresh object leave: ws4; what is told then. p: the field's place among all words. -/
def FreshSet (i to x : Int) (ws2 ws4 : List Int) (p : Int) (g k u h v j : Int) : Prop :=
  (g = 0 ∧ k ≠ 0 ∧ h = 0 ∧ u = to ∧ ∃ (q : Nat) (z : Int), i = q ∧ q ≤ 63 ∧ ws4.length = ws2.length ∧ ∀ m : Nat, nth ws4 m = if (m : Int) = p + 1 + q then z else nth ws2 m) ∨
  (g ≠ 0 ∧ k = 0 ∧ j = 0 ∧ v = x ∧ ∃ (q : Nat) (z : Int), i = q ∧ q ≤ 63 ∧ ws4.length = ws2.length ∧ ∀ m : Nat, nth ws4 m = if (m : Int) = p + 1 + q then z else nth ws2 m) ∨
  (g ≠ 0 ∧ k ≠ 0 ∧ ws4 = ws2)

theorem wipe_plain (ko : KOk c) (ti : t < c.ts.length) (hl : ws.length = totalN c) {n : Nat} (hn : n < nS c t) :
    ∃ ws1, bWipe c t ws (n : Int) = (ws1, 0) ∧ ws1.length = ws.length ∧ ∀ hd, (bMake c t ws1 (n : Int) hd = (ws1, 2)) ∨
      (bMake c t ws1 (n : Int) hd = ((zeroL ws1 (bAt c t (n : Int) 0) (bSz c t (n : Int)).toNat).set (bAt c t (n : Int) 0) (hdword hd), 0) ∧ bLies c t (n : Int) hd) := by
  have BI : bIn c t (n : Int) := ⟨by omega, by omega⟩
  have sb := slotB ko ti BI
  have s2 := sb.s2
  have zf := zero_fit ko ti hl BI
  obtain ⟨ws1, hws1⟩ : ∃ ws1, zeroL ws (bAt c t (n : Int) 0) (bSz c t (n : Int)).toNat = ws1 := ⟨_, rfl⟩
  have hl1 : ws1.length = ws.length := by rw [← hws1, zeroL_len zf]
  have w10 : bwd c t ws1 (n : Int) 0 = 0 := by rw [← hws1, bwd_zero ko ti hl BI BI (by omega), if_pos rfl]
  have H5 : bHead c t ws1 (n : Int) = (hdnil, 5) := by unfold bHead; rw [if_pos BI, w10, if_neg (fun q => hdis_zero q.1)]
  refine ⟨ws1, by unfold bWipe; rw [if_pos BI, hws1], hl1, fun hd => ?_⟩
  unfold bMake
  by_cases q : bLies c t (n : Int) hd
  · rw [if_pos ⟨BI, q⟩, if_neg (by rw [H5]; simp)]
    exact .inr ⟨rfl, q⟩
  · rw [if_neg (fun r => q r.2)]
    exact .inl rfl

theorem fresh_plain (ko : KOk c) (ti : t < c.ts.length) (hl : ws.length = totalN c) (hb : baseN c t = 0) {n : Nat} (hn : n < nS c t) {hd : Hd} (hli : bLies c t (n : Int) hd) (i to x : Int) :
    ∃ (A : Int) (R M N : Nat) (ws2 rs vs ws3 ws4 : List Int) (g k u h v j : Int), (zeroL ws (bAt c t (n : Int) 0) (bSz c t (n : Int)).toNat).set (bAt c t (n : Int) 0) (hdword hd) = ws2 ∧ bAd c t (n : Int) = A ∧ 0 ≤ A ∧ A ≤ 8388608 ∧ hd.r = R ∧ hd.w = M ∧ R ≤ 63 ∧ M ≤ 63 ∧
      ws2.length = N ∧ ws4.length = N ∧ N ≤ 8388608 ∧ rs.length = R ∧ vs.length = M ∧ (∀ q, q < R → nth rs q = -1) ∧ (∀ q, q < M → nth vs q = 0) ∧
      bRefs c t ws2 (n : Int) = (rs, 0) ∧ bWords c t ws2 (n : Int) = (vs, 0) ∧ bSetRef c t ws2 (n : Int) i to = (ws3, g) ∧ bSetWord c t ws3 (n : Int) i x = (ws4, k) ∧ bRef c t ws4 (n : Int) i = (u, h) ∧ bWord c t ws4 (n : Int) i = (v, j) ∧
      FreshSet i to x ws2 ws4 A g k u h v j := by
  have BI : bIn c t (n : Int) := ⟨by omega, by omega⟩
  have sb := slotB ko ti BI
  have s2 := sb.s2; have s64 := sb.s64; have a0 := sb.a0; have fit := sb.fit
  have tot := ko.total_le
  have reg := ko.region_in ti
  have zf := zero_fit ko ti hl BI
  have hok := hli.1
  obtain ⟨⟨_, _⟩, r0, w0, r63, w63⟩ := hok
  have hfit := hli.2.2
  obtain ⟨R, hR⟩ := Int.eq_ofNat_of_zero_le r0
  obtain ⟨M, hM⟩ := Int.eq_ofNat_of_zero_le w0
  obtain ⟨ws2, hws2⟩ : ∃ ws2, (zeroL ws (bAt c t (n : Int) 0) (bSz c t (n : Int)).toNat).set (bAt c t (n : Int) 0) (hdword hd) = ws2 := ⟨_, rfl⟩
  have hh2 : bHead c t ws2 (n : Int) = (hd, 0) := by rw [← hws2]; exact made_head ko ti hl BI hli
  have hl2 : ws2.length = ws.length := by rw [← hws2, List.length_set, zeroL_len zf]
  have wd2 : ∀ q : Nat, (q : Int) < hd.r + hd.w → bwd c t ws2 (n : Int) (1 + q) = 0 := fun q hq => by
    rw [← hws2, made_wd ko ti hl BI BI (by omega), if_pos rfl, if_neg (by omega)]
  have ro2 : ∀ q : Nat, (q : Int) < hd.r → bRef c t ws2 (n : Int) q = (-1, 0) := fun q hq => by
    unfold bRef
    rw [bLoad_at hh2 (by omega) (by simp [hq]), wd2 q (by omega)]
    simp only [if_pos]
    rw [if_neg (by omega)]
    rfl
  have a1 := oneR_all (F := fun q => bRef c t ws2 (n : Int) q) R fun q hq => by show (bRef c t ws2 (n : Int) q).2 = 0; rw [ro2 q (by omega)]
  obtain ⟨rs, hrs⟩ : ∃ rs, (oneR (fun q => bRef c t ws2 (n : Int) q) R).1 = rs := ⟨_, rfl⟩
  have erefs : bRefs c t ws2 (n : Int) = (rs, 0) := by
    unfold bRefs
    rw [hh2, if_pos rfl, hR, Int.toNat_natCast]
    exact Prod.ext hrs a1
  have lrs : rs.length = R := by rw [← hrs]; exact oneR_len _ a1
  have frs : ∀ q, q < R → nth rs q = -1 := fun q hq => by
    have e := oneR_nth _ a1 q hq
    rw [hrs] at e
    have e2 := ro2 q (by omega)
    have e3 : bRef c t ws2 (n : Int) q = (nth rs q, 0) := e
    rw [e2] at e3
    exact (congrArg Prod.fst e3).symm
  obtain ⟨vs, hvs, lvs, fvs⟩ := bWords_full hh2
  have lvm : vs.length = M := by rw [lvs, hM, Int.toNat_natCast]
  have fvz : ∀ q, q < M → nth vs q = 0 := fun q hq => by
    have e := fvs q (by rw [← lvs, lvm]; exact hq)
    rw [show hd.r + (q : Int) = ((R + q : Nat) : Int) by omega, bWord_at hh2 (by omega) (by omega), wd2 (R + q) (by omega)] at e
    exact (congrArg Prod.fst e).symm
  have at1 : ∀ q : Nat, bAt c t (n : Int) q = (bAd c t (n : Int)).toNat + q := fun q => by unfold bAt; rw [hb]; omega
  -- what is set
  have setD : ∀ (q : Nat) (z : Int), (q : Int) < hd.r + hd.w → bHead c t (ws2.set (bAt c t (n : Int) (1 + q)) z) (n : Int) = (hd, 0) ∧ bwd c t (ws2.set (bAt c t (n : Int) (1 + q)) z) (n : Int) (1 + q) = z ∧
      (ws2.set (bAt c t (n : Int) (1 + q)) z).length = ws2.length ∧ ∀ m : Nat, nth (ws2.set (bAt c t (n : Int) (1 + q)) z) m = if (m : Int) = bAd c t (n : Int) + 1 + q then z else nth ws2 m := fun q z hq => by
    refine ⟨?_, ?_, List.length_set, fun m => ?_⟩
    · rw [← hh2]
      exact bHead_congr (by rw [bwd_set ko ti (hl2.trans hl) BI BI (by omega) (by omega), if_neg (by omega)])
    · rw [bwd_set ko ti (hl2.trans hl) BI BI (by omega) (by omega), if_pos ⟨rfl, rfl⟩]
    · rw [nth_setL (sb.at_lt ko ti (hl2.trans hl) (by omega)), at1]
      by_cases e : (m : Int) = bAd c t (n : Int) + 1 + q
      · rw [if_pos e, if_pos (by omega)]
      · rw [if_neg e, if_neg (by omega)]
  refine ⟨bAd c t (n : Int), R, M, ws2.length, ws2, rs, vs, (bSetRef c t ws2 (n : Int) i to).1, (bSetWord c t (bSetRef c t ws2 (n : Int) i to).1 (n : Int) i x).1, (bSetRef c t ws2 (n : Int) i to).2, (bSetWord c t (bSetRef c t ws2 (n : Int) i to).1 (n : Int) i x).2,
    (bRef c t (bSetWord c t (bSetRef c t ws2 (n : Int) i to).1 (n : Int) i x).1 (n : Int) i).1, (bRef c t (bSetWord c t (bSetRef c t ws2 (n : Int) i to).1 (n : Int) i x).1 (n : Int) i).2,
    (bWord c t (bSetWord c t (bSetRef c t ws2 (n : Int) i to).1 (n : Int) i x).1 (n : Int) i).1, (bWord c t (bSetWord c t (bSetRef c t ws2 (n : Int) i to).1 (n : Int) i x).1 (n : Int) i).2,
    hws2, rfl, a0, by omega, hR, hM, by omega, by omega, rfl, ?_, by omega, lrs, lvm, frs, fvz, erefs, hvs, rfl, rfl, rfl, rfl, ?_⟩
  · unfold bSetWord bSetRef
    rw [bStore_len]
    split
    · rw [bStore_len]
    · rfl
  · by_cases cr : 0 ≤ i ∧ i < hd.r
    · obtain ⟨q, rfl⟩ := Int.eq_ofNat_of_zero_le cr.1
      have dr : decide ((q : Int) < hd.r) = true := decide_eq_true cr.2
      have fw : ∀ ws', bHead c t ws' (n : Int) = (hd, 0) → bField c t ws' (n : Int) (q : Int) false = 110 := fun ws' hh => by rw [bField_of hh, if_neg (by rw [dr]; simp)]
      have fr : bField c t ws2 (n : Int) (q : Int) true = 0 := by rw [bField_of hh2, if_pos ⟨by omega, by omega, dr.symm⟩]
      by_cases ct : -1 ≤ to ∧ to < (nS c t : Int)
      · have e1 : bSetRef c t ws2 (n : Int) (q : Int) to = (ws2.set (bAt c t (n : Int) (1 + q)) (to + 1), 0) := by
          unfold bSetRef; rw [if_pos ⟨BI, ct⟩]; unfold bStore; rw [if_pos fr, Int.toNat_natCast]
        obtain ⟨s1, s3, s4, s5⟩ := setD q (to + 1) (by omega)
        have e2 : bSetWord c t (ws2.set (bAt c t (n : Int) (1 + q)) (to + 1)) (n : Int) (q : Int) x = (ws2.set (bAt c t (n : Int) (1 + q)) (to + 1), 110) := by
          unfold bSetWord bStore; rw [fw _ s1]; rfl
        have e3 : bRef c t (ws2.set (bAt c t (n : Int) (1 + q)) (to + 1)) (n : Int) (q : Int) = (to, 0) := by
          unfold bRef
          rw [bLoad_at s1 (by omega) dr.symm, s3]
          simp only [if_pos]
          rw [if_neg (by omega), Int.add_sub_cancel]
        rw [e1]
        dsimp only
        rw [e2]
        dsimp only
        rw [e3]
        exact .inl ⟨rfl, by show (110 : Int) ≠ 0; decide, rfl, rfl, q, to + 1, rfl, by omega, s4, s5⟩
      · have e1 : bSetRef c t ws2 (n : Int) (q : Int) to = (ws2, 2) := by unfold bSetRef; rw [if_neg (fun r => ct r.2)]
        have e2 : bSetWord c t ws2 (n : Int) (q : Int) x = (ws2, 110) := by unfold bSetWord bStore; rw [fw _ hh2]; rfl
        rw [e1]
        dsimp only
        rw [e2]
        exact .inr (.inr ⟨by show (2 : Int) ≠ 0; decide, by show (110 : Int) ≠ 0; decide, rfl⟩)
    · have g0 : ∃ g, g ≠ 0 ∧ bSetRef c t ws2 (n : Int) i to = (ws2, g) := by
        unfold bSetRef
        split
        · have fr : bField c t ws2 (n : Int) i true = 110 := by
            rw [bField_of hh2, if_neg]
            rintro ⟨q1, q2, q3⟩
            have : i < hd.r := by simpa using q3.symm
            exact cr ⟨q1, this⟩
          refine ⟨110, by decide, ?_⟩
          unfold bStore; rw [fr]; rfl
        · exact ⟨2, by decide, rfl⟩
      obtain ⟨g, hg, e1⟩ := g0
      rw [e1]
      dsimp only
      by_cases cw : hd.r ≤ i ∧ i < hd.r + hd.w
      · obtain ⟨q, rfl⟩ := Int.eq_ofNat_of_zero_le (show 0 ≤ i by omega)
        have dr : decide ((q : Int) < hd.r) = false := decide_eq_false (by omega)
        have fw : bField c t ws2 (n : Int) (q : Int) false = 0 := by rw [bField_of hh2, if_pos ⟨by omega, by omega, dr.symm⟩]
        obtain ⟨s1, s3, s4, s5⟩ := setD q x (by omega)
        have e2 : bSetWord c t ws2 (n : Int) (q : Int) x = (ws2.set (bAt c t (n : Int) (1 + q)) x, 0) := by
          unfold bSetWord bStore; rw [if_pos fw, Int.toNat_natCast]
        rw [e2]
        dsimp only
        rw [bWord_at s1 (by omega) (by omega), s3]
        exact .inr (.inl ⟨hg, rfl, rfl, rfl, q, x, rfl, by omega, s4, s5⟩)
      · have e2 : bSetWord c t ws2 (n : Int) i x = (ws2, 110) := by
          have fw : bField c t ws2 (n : Int) i false = 110 := by
            rw [bField_of hh2, if_neg]
            rintro ⟨q1, q2, q3⟩
            have : ¬ i < hd.r := by simpa using q3.symm
            omega
          unfold bSetWord bStore
          rw [fw]
          rfl
        rw [e2]
        exact .inr (.inr ⟨hg, by show (110 : Int) ≠ 0; decide, rfl⟩)

end Go.Proofs.YtnbngcagnchkdaaGreatDoor

/-! commonagelaw11: BodyFresh. (Printed by wip/gen11r.py.) -/
namespace Go.Proofs.YtnbngcagnchkdaaGreatDoor
open Go.RowKit
variable {w w' W : World}

set_option maxRecDepth 100000 in
set_option maxHeartbeats 32000000 in
theorem law11_BodyFresh {ca0 ta la : Option Addr} {cc0 tc lcc : Nat} (c : Conf) (l : List Int) (y : OAct) (w : World) (hW : Wid w) (h : CfgAt w ca0 ta cc0 tc c) (hl : At .u64 w la l) (hlm : l.length ≤ maxLen) (hlx : ∀ x ∈ l, 0 ≤ x ∧ x < 18446744073709551616) (hy : y.Ok) :
    Calls Tryz.prog 6 #[.agg #[.slice ca0 c.cl.length cc0, .int .i64 c.page, .slice ta c.ts.length tc, .int .i64 c.wk, .int .i64 c.gr, .int .i64 c.gens], .slice la l.length lcc, .agg #[.int .u8 y.what, .int .i64 y.slot, .int .i64 y.i, .int .i64 y.to, .int .u64 y.w, .int .i64 y.hc, .int .i64 y.hr, .int .i64 y.hw]] w fun e w' => e = .returned (.bool true) ∧ Ext w w' := by
  have H := Lib.hid h; have HW := Lib.hid hW
  clear h hW
  have HL := Lib.hid hl; have HY := Lib.hid hy
  have HX : Hid (∀ k, 0 ≤ nth l k ∧ nth l k < 18446744073709551616) := Lib.hid (fun k => by
    by_cases hk : k < l.length
    · rw [show nth l k = l[k] by simp [nth, List.getD, hk]]; exact hlx _ (List.getElem_mem hk)
    · rw [show nth l k = 0 by simp [nth, List.getD, Nat.le_of_not_lt hk]]; omega)
  unfold maxLen at hlm
  clear hl hy hlx
  obtain ⟨z, hz⟩ : ∃ z, w.heap.size = z := ⟨_, rfl⟩
  obtain ⟨W0, hW0, hB0, hY0, hX0⟩ := ba2 w hz ca0 ta cc0 tc c y
  have X0 := Lib.hid hX0; have B0 := Lib.hid hB0; have Y0 := Lib.hid hY0
  clear hX0 hB0 hY0
  have b0 := B0.out.c 0 _ rfl; have b1 := B0.out.c 1 _ rfl; have b2 := B0.out.c 2 _ rfl; have b3 := B0.out.c 3 _ rfl; have b4 := B0.out.c 4 _ rfl; have b5 := B0.out.c 5 _ rfl
  have bz := B0.out.lt
  by_cases hg : bigB c = false ∧ kcheck c = 0
  · obtain ⟨hg, h0⟩ := hg
    have ho := kcheck_ok h0
    have hi : 0 < c.ts.length := ho.head.2.2.1
    have CM := Lib.hid (law11_made (t := 0) c 0 (HW.out.ext X0.out) hg h0 (by decide) hi (by simp) (H.out.ext X0.out))
    obtain ⟨t, ht⟩ : ∃ t, 0 = t := ⟨0, rfl⟩
    rw [ht] at CM hi
    have HB0 := Lib.hid (show baseN c t = 0 by rw [← ht]; rfl)
    clear hg h0 ho ht
    go_enter Tryz.func6, Tryz.ntmps6
    go_wp2_with fail
    clear hW0 hz b0 b1 b2 b3 b4 b5 bz
    refine CM.out.mono ?_
    rintro e w1 ⟨bb, mm, gw, gb, pb, gp, d0, cap0, lb, lc, fb, fc, mb, mc, rfl, hb, hd, x1, hg⟩
    have HB := Lib.hid hb; have HD := Lib.hid hd; have X1 := Lib.hid x1; have HG := Lib.hid hg
    clear CM hb hd x1 hg
    go_upto_region 2 with fail
    obtain ⟨zq, hzq⟩ : ∃ zq, w1.heap.size = zq := ⟨_, rfl⟩
    obtain ⟨W1, hW1⟩ : ∃ W, w1.alloc (.cells #[.slice (some ⟨d0, 0, none⟩) c.ts.length cap0, .int .i64 t, .slice (some ⟨lb, 0, none⟩) (nS c t) lc, .slice (some ⟨fb, 0, none⟩) (nG c t) fc, .slice (some ⟨mb, 0, none⟩) (nG c t) mc, .int .i64 (wordsOf c t), .slice ca0 c.cl.length cc0] 41) = W := ⟨_, rfl⟩
    have HP : Hid (PlayB W0 bb mm gw gb pb gp zq d0 cap0 lb lc fb fc mb mc cc0 ca0 c t (List.replicate (totalN c) 0) W1) := Lib.hid (by
      rw [← hW1]
      exact PlayB.start HB.out HD.out X1.out HG.out hzq)
    rw [hW1, hzq]
    clear HB HD X1 HG hW1 hzq
    have NY := Lib.hid (show ¬ isB gw (z + 1) by have h1 := HP.out.lg; have h2 := Y0.out.lt; unfold isB; omega)
    by_cases hin : 0 ≤ y.slot ∧ y.slot < (nS c t : Int)
    · have CH := Lib.hid (fun W : World => ref09_Has (lb := lb) (lc := lc) (fb := fb) (fc := fc) (mb := mb) (mc := mc) (ca := ca0) (cc := cc0) (c := c) (t := t) (s := y.slot) (w := W) true (decide_eq_true hin))
      unfold dpv at CH
      obtain ⟨n, hn⟩ : ∃ n : Nat, y.slot = n := ⟨y.slot.toNat, by omega⟩
      have hnn : n < nS c t := by omega
      have HN := Lib.hid hn
      rw [hn] at CH
      clear hin hn
      have q0 := HP.out.box.c 0 _ rfl; have q1 := HP.out.box.c 1 _ rfl; have q2 := HP.out.box.c 2 _ rfl; have q3 := HP.out.box.c 3 _ rfl; have q4 := HP.out.box.c 4 _ rfl; have q5 := HP.out.box.c 5 _ rfl; have q6 := HP.out.box.c 6 _ rfl
      have lz := HP.out.box.lt
      have ybx := Y0.out.ext HP.out.ext
      have y0 := ybx.c 0 _ rfl; have y1 := ybx.c 1 _ rfl; have y2 := ybx.c 2 _ rfl; have y3 := ybx.c 3 _ rfl; have y4 := ybx.c 4 _ rfl; have y5 := ybx.c 5 _ rfl; have y6 := ybx.c 6 _ rfl; have y7 := ybx.c 7 _ rfl
      have ly := ybx.lt
      clear ybx
      rw [HN.out] at y1
      go_wp2_with fail
      refine (CH.out _).mono ?_
      rintro e w2 ⟨rfl, x2⟩
      clear y0 y1 y2 y3 y4 y5 y6 y7 ly
      clear q0 q1 q2 q3 q4 q5 q6 lz CH
      replace HP := Lib.hid (HP.out.go x2)
      clear x2
      go_upto_region 5 with fail
      go_loopw [10] (fun kv wr => ∃ (k : Nat) (ws : List Int), k ≤ l.length ∧ k ≤ 200 ∧ kv = .int .i64 k ∧ Hid (BodyAt wr bb mm gw gb pb gp c t ws) ∧ Hid (Chg (isB gw) w2 wr)) (fun kv _ => 200 - (intOf kv).toNat)
      case atStart => exact ⟨0, _, Nat.zero_le _, Nat.zero_le _, rfl, Lib.hid HP.out.body, Lib.hid (Chg.refl _ _)⟩
      case round =>
        obtain ⟨k, ws, hk, hk200, rfl, B, C⟩ := hrel
        rcases (show (k < l.length ∧ k < 200) ∨ (k < l.length ∧ k = 200) ∨ k = l.length by omega) with ⟨hlt, h200⟩ | ⟨hlt, rfl⟩ | rfl
        · as_aux_lemma =>
          obtain ⟨ab, ao, rfl, cx⟩ := HL.out k hlt
          have la0 : ab < w.heap.size := cell_lt cx
          have na : ¬ isB gw ab := by have h1 := HP.out.lg; have := X0.out.size; unfold isB; omega
          replace cx := C.out.cell (p := ⟨ab, ao + k, none⟩) na ((X0.out.trans HP.out.ext).cell cx)
          have xr := HX.out k
          generalize nth l k = x at *
          have hk0 : (0 : Int) ≤ (k : Int) := Int.natCast_nonneg _
          have hk1 : (k : Int) < (l.length : Int) := by omega
          go_wp2_with fail
          obtain ⟨ws6, kk, hs⟩ : ∃ ws6 kk, storeR c ws 0 (k : Int) x = (ws6, kk) := ⟨_, _, rfl⟩
          have SR := Lib.hid hs
          clear hs
          refine (mem_Store B.out.mem (by unfold is64; omega) SR.out).mono ?_
          rintro e w6 ⟨rfl, hc6, hm6⟩
          have B6 := Lib.hid (B.out.turn hc6 hm6 (B.out.ok.store xr SR.out))
          have C6 := Lib.hid (C.out.trans hc6)
          clear hc6 hm6 cx
          go_wp2_with fail
          go_roundw
          case rel => exact ⟨k + 1, ws6, by omega, by omega, by go_num, B6, C6⟩
          case measure => simp [intOf] <;> omega
        all_goals as_aux_lemma =>
          clear HX
          go_upto_region 8 with fail
          obtain ⟨ws1, hw1, hl1, hmk⟩ := wipe_plain B.out.ko B.out.ti B.out.mem.len hnn
          have WW := Lib.hid hw1; have L1 := Lib.hid (hl1.trans B.out.mem.len); have MK := Lib.hid (hmk ⟨y.hc, y.hr, y.hw⟩)
          obtain ⟨N0, hN0⟩ : ∃ N0, totalN c = N0 := ⟨_, rfl⟩
          have LN1 := Lib.hid (L1.out.trans hN0)
          have tot := B.out.ko.total_le
          clear hw1 hl1 hmk
          have ybx := (Y0.out.ext HP.out.ext).chg C.out NY.out
          have y0 := ybx.c 0 _ rfl; have y1 := ybx.c 1 _ rfl; have y2 := ybx.c 2 _ rfl; have y3 := ybx.c 3 _ rfl; have y4 := ybx.c 4 _ rfl; have y5 := ybx.c 5 _ rfl; have y6 := ybx.c 6 _ rfl; have y7 := ybx.c 7 _ rfl
          have ly := ybx.lt
          clear ybx
          rw [HN.out] at y1
          have CW := Lib.hid (body_Wipe B.out WW.out)
          go_wp2_with fail
          refine CW.out.mono ?_
          rintro e w3 ⟨rfl, h3, c3⟩
          replace B := Lib.hid h3
          replace C := Lib.hid (C.out.trans c3)
          clear h3 c3 CW
          clear y0 y1 y2 y3 y4 y5 y6 y7 ly
          have CA := Lib.hid (mem_All B.out.mem)
          go_wp2_with fail
          refine CA.out.mono ?_
          rintro e v4 ⟨a4, c4, rfl, n4, x4⟩
          have R4 := Lib.hid n4.row
          have NA4 := Lib.hid (show ∀ b o, a4 = some ⟨b, o, none⟩ → 0 < (ws1).length → ¬ isB gw b by
            intro b o e1 e2 q
            obtain ⟨g, e3, e4, _⟩ := n4.own e2
            rw [e3] at e1
            cases e1
            have := B.out.lt.2
            unfold isB at q
            omega)
          rw [LN1.out]
          replace B := Lib.hid (B.out.ext x4)
          replace C := Lib.hid (C.out.trans (Chg.of_ext x4))
          clear CA n4
          clear x4
          have ybx := (Y0.out.ext HP.out.ext).chg C.out NY.out
          have y0 := ybx.c 0 _ rfl; have y1 := ybx.c 1 _ rfl; have y2 := ybx.c 2 _ rfl; have y3 := ybx.c 3 _ rfl; have y4 := ybx.c 4 _ rfl; have y5 := ybx.c 5 _ rfl; have y6 := ybx.c 6 _ rfl; have y7 := ybx.c 7 _ rfl
          have ly := ybx.lt
          clear ybx
          rw [HN.out] at y1
          rcases MK.out with hno | ⟨hyes, hli⟩
          · as_aux_lemma =>
            have cm := body_Make ⟨y.hc, y.hr, y.hw⟩ B.out hno
            dsimp only at cm
            have CM := Lib.hid cm
            clear cm hno MK
            go_wp2_with fail
            refine CM.out.mono ?_
            rintro e w5 ⟨rfl, h5, c5⟩
            replace B := Lib.hid h5
            replace C := Lib.hid (C.out.trans c5)
            replace R4 := Lib.hid (R4.out.chg c5 NA4.out)
            clear y0 y1 y2 y3 y4 y5 y6 y7 ly
            clear CM h5 c5
            have CA := Lib.hid (mem_All B.out.mem)
            go_wp2_with fail
            refine CA.out.mono ?_
            rintro e v6 ⟨a6, c6, rfl, n6, x6⟩
            have R6 := Lib.hid n6.row
            have NA6 := Lib.hid (show ∀ b o, a6 = some ⟨b, o, none⟩ → 0 < (ws1).length → ¬ isB gw b by
              intro b o e1 e2 q
              obtain ⟨g, e3, e4, _⟩ := n6.own e2
              rw [e3] at e1
              cases e1
              have := B.out.lt.2
              unfold isB at q
              omega)
            rw [LN1.out]
            replace B := Lib.hid (B.out.ext x6)
            replace C := Lib.hid (C.out.trans (Chg.of_ext x6))
            clear CA n6
            go_wp2_with fail
            have WX := Lib.hid (show ws1.length ≤ maxLen by rw [L1.out]; unfold maxLen; omega)
            have cs := ref03_Same (ca := c6) (cb := c4) ws1 ws1 true (by simp) R6.out (R4.out.ext x6) WX.out WX.out
            rw [LN1.out] at cs
            have CS := Lib.hid cs
            clear cs
            refine CS.out.mono ?_
            rintro e wa ⟨rfl, xb⟩
            clear CS
            have CA := Lib.hid (law11_awake wa (B.out.wid.ext xb))
            go_wp2_with fail
            refine CA.out.mono ?_
            rintro e wb ⟨rfl, xc⟩
            go_wp2_with fail
            go_ret
            exact ⟨rfl, X0.out.trans ((C.out.over HP.out.ext fun k e => by unfold isB at e; subst e; exact HP.out.lg).trans (xb.trans xc))⟩
          · as_aux_lemma =>
            have cm := body_Make ⟨y.hc, y.hr, y.hw⟩ B.out hyes
            obtain ⟨A, R, M, N, ws2, rs, vs, ws3, ws4, g, k', u, h, v, j, hws2, hA, hA0, hA1, hR, hM, hR63, hM63, hN2, hN4, hNm, lrs, lvs, frs, fvs, h21, h22, h23, h24, h25, h26, hF⟩ := fresh_plain B.out.ko B.out.ti L1.out HB0.out hnn hli y.i y.to y.w
            dsimp only at cm hR hM
            rw [hws2] at cm
            have CM := Lib.hid cm
            have HA := Lib.hid hA; have HR := Lib.hid hR; have HM := Lib.hid hM; have LN2 := Lib.hid hN2; have LN4 := Lib.hid hN4; have LR := Lib.hid lrs; have LV := Lib.hid lvs; have FR := Lib.hid frs; have FV := Lib.hid fvs
            have E21 := Lib.hid h21; have E22 := Lib.hid h22; have E23 := Lib.hid h23; have E24 := Lib.hid h24; have E25 := Lib.hid h25; have E26 := Lib.hid h26; have HF := Lib.hid hF
            clear cm hyes hli MK hws2 hA hR hM hN2 hN4 lrs lvs frs fvs h21 h22 h23 h24 h25 h26 hF
            go_wp2_with fail
            refine CM.out.mono ?_
            rintro e w5 ⟨rfl, h5, c5⟩
            replace B := Lib.hid h5
            replace C := Lib.hid (C.out.trans c5)
            clear y0 y1 y2 y3 y4 y5 y6 y7 ly
            clear CM h5 c5 R4 NA4
            have ybx := (Y0.out.ext HP.out.ext).chg C.out NY.out
            have y0 := ybx.c 0 _ rfl; have y1 := ybx.c 1 _ rfl; have y2 := ybx.c 2 _ rfl; have y3 := ybx.c 3 _ rfl; have y4 := ybx.c 4 _ rfl; have y5 := ybx.c 5 _ rfl; have y6 := ybx.c 6 _ rfl; have y7 := ybx.c 7 _ rfl
            have ly := ybx.lt
            clear ybx
            rw [HN.out] at y1
            have CR := Lib.hid (body_Refs B.out E21.out)
            go_wp2_with fail
            refine CR.out.mono ?_
            rintro e w6 ⟨a6, c6, rfl, h6, x6⟩
            rw [LR.out]
            have R6 := Lib.hid h6
            replace B := Lib.hid (B.out.ext x6)
            replace C := Lib.hid (C.out.trans (Chg.of_ext x6))
            clear y0 y1 y2 y3 y4 y5 y6 y7 ly
            clear CR h6 x6
            have ybx := (Y0.out.ext HP.out.ext).chg C.out NY.out
            have y0 := ybx.c 0 _ rfl; have y1 := ybx.c 1 _ rfl; have y2 := ybx.c 2 _ rfl; have y3 := ybx.c 3 _ rfl; have y4 := ybx.c 4 _ rfl; have y5 := ybx.c 5 _ rfl; have y6 := ybx.c 6 _ rfl; have y7 := ybx.c 7 _ rfl
            have ly := ybx.lt
            clear ybx
            rw [HN.out] at y1
            have CW := Lib.hid (body_Words B.out E22.out)
            go_wp2_with fail
            refine CW.out.mono ?_
            rintro e w7 ⟨a7, c7, rfl, h7, x7⟩
            rw [LV.out]
            have R7 := Lib.hid h7
            replace R6 := Lib.hid (R6.out.ext x7)
            replace B := Lib.hid (B.out.ext x7)
            replace C := Lib.hid (C.out.trans (Chg.of_ext x7))
            clear y0 y1 y2 y3 y4 y5 y6 y7 ly
            clear CW h7 x7
            have ybx := (Y0.out.ext HP.out.ext).chg C.out NY.out
            have y0 := ybx.c 0 _ rfl; have y1 := ybx.c 1 _ rfl; have y2 := ybx.c 2 _ rfl; have y3 := ybx.c 3 _ rfl; have y4 := ybx.c 4 _ rfl; have y5 := ybx.c 5 _ rfl; have y6 := ybx.c 6 _ rfl; have y7 := ybx.c 7 _ rfl
            have ly := ybx.lt
            clear ybx
            rw [HN.out] at y1
            rw [HR.out] at y6
            rw [HM.out] at y7
            go_upto_region 17 with fail
            clear y0 y1 y2 y3 y4 y5 y6 y7 ly
            go_loop [16] (fun kv => ∃ i : Nat, i ≤ R ∧ kv = .int .i64 i) (fun kv => R - (intOf kv).toNat)
            case atStart => exact ⟨0, Nat.zero_le _, rfl⟩
            case round =>
              obtain ⟨i, hi1, rfl⟩ := hrel
              by_cases hlt2 : i < R
              · as_aux_lemma =>
                obtain ⟨b8, o8, rfl, cx⟩ := R6.out i (by rw [LR.out]; exact hlt2)
                rw [FR.out i hlt2] at cx
                have i0 : (0 : Int) ≤ (i : Int) := Int.natCast_nonneg _
                have i1 : (i : Int) < (R : Int) := by omega
                go_wp2_with fail
                go_round
                case rel => exact ⟨i + 1, by omega, by go_num⟩
                case measure => simp [intOf] <;> omega
              · as_aux_lemma =>
                obtain rfl : i = R := by omega
                clear R6 FR
                go_upto_region 22 with fail
                go_loop [17] (fun kv => ∃ q : Nat, q ≤ M ∧ kv = .int .i64 q) (fun kv => M - (intOf kv).toNat)
                case atStart => exact ⟨0, Nat.zero_le _, rfl⟩
                case round =>
                  obtain ⟨q, hq1, rfl⟩ := hrel
                  by_cases hlt3 : q < M
                  · as_aux_lemma =>
                    obtain ⟨b8, o8, rfl, cx⟩ := R7.out q (by rw [LV.out]; exact hlt3)
                    rw [FV.out q hlt3] at cx
                    have i0 : (0 : Int) ≤ (q : Int) := Int.natCast_nonneg _
                    have i1 : (q : Int) < (M : Int) := by omega
                    go_wp2_with fail
                    go_round
                    case rel => exact ⟨q + 1, by omega, by go_num⟩
                    case measure => simp [intOf] <;> omega
                  · as_aux_lemma =>
                    obtain rfl : q = M := by omega
                    clear R7 FV
                    have CA := Lib.hid (mem_All B.out.mem)
                    go_wp2_with fail
                    refine CA.out.mono ?_
                    rintro e v8 ⟨a8, c8, rfl, n8, x8⟩
                    have R8 := Lib.hid n8.row
                    have NA8 := Lib.hid (show ∀ b o, a8 = some ⟨b, o, none⟩ → 0 < (ws2).length → ¬ isB gw b by
                      intro b o e1 e2 q
                      obtain ⟨g, e3, e4, _⟩ := n8.own e2
                      rw [e3] at e1
                      cases e1
                      have := B.out.lt.2
                      unfold isB at q
                      omega)
                    rw [LN2.out]
                    replace B := Lib.hid (B.out.ext x8)
                    replace C := Lib.hid (C.out.trans (Chg.of_ext x8))
                    clear CA n8
                    clear x8
                    have ybx := (Y0.out.ext HP.out.ext).chg C.out NY.out
                    have y0 := ybx.c 0 _ rfl; have y1 := ybx.c 1 _ rfl; have y2 := ybx.c 2 _ rfl; have y3 := ybx.c 3 _ rfl; have y4 := ybx.c 4 _ rfl; have y5 := ybx.c 5 _ rfl; have y6 := ybx.c 6 _ rfl; have y7 := ybx.c 7 _ rfl
                    have ly := ybx.lt
                    clear ybx
                    rw [HN.out] at y1
                    have yw := HY.out.2.2.2.2.1
                    go_upto_region 27 with fail
                    have XD : Ext v8 v8.drew := (Ext.refl _).drew
                    go_region_held3 (fun w' => w'.cell? ⟨z + 1, 1, none⟩ = some (.int .i64 n) ∧ w'.cell? ⟨z + 1, 2, none⟩ = some (.int .i64 y.i) ∧ w'.cell? ⟨z + 1, 3, none⟩ = some (.int .i64 y.to) ∧ w'.cell? ⟨z + 1, 4, none⟩ = some (.int .u64 y.w))
                      ((first | with_reducible exact ⟨k1, k2, k3, k4⟩ | go_keep))
                      ((first
                        | (go_at_call 25; refine (body_SetRef (B.out.ext XD) E23.out).mono ?_; rintro e w9 ⟨rfl, h9, c9⟩; have k1 := c9.cell (p := ⟨z + 1, 1, none⟩) NY.out (XD.cell y1); have k2 := c9.cell (p := ⟨z + 1, 2, none⟩) NY.out (XD.cell y2); have k3 := c9.cell (p := ⟨z + 1, 3, none⟩) NY.out (XD.cell y3); have k4 := c9.cell (p := ⟨z + 1, 4, none⟩) NY.out (XD.cell y4))
                        | (go_at_call 26; refine (body_SetWord h9 yw E24.out).mono ?_; rintro e wA ⟨rfl, hA, cA⟩; have k1 := cA.cell (p := ⟨z + 1, 1, none⟩) NY.out k1; have k2 := cA.cell (p := ⟨z + 1, 2, none⟩) NY.out k2; have k3 := cA.cell (p := ⟨z + 1, 3, none⟩) NY.out k3; have k4 := cA.cell (p := ⟨z + 1, 4, none⟩) NY.out k4)))
                    all_goals
                      replace B := Lib.hid hA
                      replace C := Lib.hid (C.out.trans ((Chg.of_ext XD).trans (c9.trans cA)))
                      replace R8 := Lib.hid ((R8.out.ext XD).chg (c9.trans cA) NA8.out)
                      clear k1 k2 k3 k4 h9 hA c9 cA XD yw y0 y1 y2 y3 y4 y5 y6 y7 ly
                      rcases HF.out with ⟨rfl, hk', rfl, rfl, qi, zi, hi, hq63, l4, hnn2⟩ | ⟨hg', rfl, rfl, rfl, qi, zi, hi, hq63, l4, hnn2⟩ | ⟨hg', hk', rfl⟩
                      · as_aux_lemma =>
                        have HI := Lib.hid hi; have NN := Lib.hid hnn2
                        have t0 : (k' == 0) = false := by simpa using hk'
                        clear hk' hi hnn2 l4
                        have ybx := (Y0.out.ext HP.out.ext).chg C.out NY.out
                        have y0 := ybx.c 0 _ rfl; have y1 := ybx.c 1 _ rfl; have y2 := ybx.c 2 _ rfl; have y3 := ybx.c 3 _ rfl; have y4 := ybx.c 4 _ rfl; have y5 := ybx.c 5 _ rfl; have y6 := ybx.c 6 _ rfl; have y7 := ybx.c 7 _ rfl
                        have ly := ybx.lt
                        clear ybx
                        rw [HN.out] at y1
                        have CR := Lib.hid (body_Ref B.out E25.out)
                        go_wp2_with fail
                        refine CR.out.mono ?_
                        rintro e w9 ⟨rfl, x9⟩
                        replace B := Lib.hid (B.out.ext x9)
                        replace C := Lib.hid (C.out.trans (Chg.of_ext x9))
                        replace R8 := Lib.hid (R8.out.ext x9)
                        clear y0 y1 y2 y3 y4 y5 y6 y7 ly
                        clear CR x9
                        have ybx := (Y0.out.ext HP.out.ext).chg C.out NY.out
                        have y0 := ybx.c 0 _ rfl; have y1 := ybx.c 1 _ rfl; have y2 := ybx.c 2 _ rfl; have y3 := ybx.c 3 _ rfl; have y4 := ybx.c 4 _ rfl; have y5 := ybx.c 5 _ rfl; have y6 := ybx.c 6 _ rfl; have y7 := ybx.c 7 _ rfl
                        have ly := ybx.lt
                        clear ybx
                        rw [HN.out] at y1
                        have CW := Lib.hid (body_Word B.out E26.out)
                        go_wp2_with fail
                        refine CW.out.mono ?_
                        rintro e wA ⟨rfl, xA⟩
                        replace B := Lib.hid (B.out.ext xA)
                        replace C := Lib.hid (C.out.trans (Chg.of_ext xA))
                        replace R8 := Lib.hid (R8.out.ext xA)
                        clear y0 y1 y2 y3 y4 y5 y6 y7 ly
                        clear CW xA
                        have ybx := (Y0.out.ext HP.out.ext).chg C.out NY.out
                        have y0 := ybx.c 0 _ rfl; have y1 := ybx.c 1 _ rfl; have y2 := ybx.c 2 _ rfl; have y3 := ybx.c 3 _ rfl; have y4 := ybx.c 4 _ rfl; have y5 := ybx.c 5 _ rfl; have y6 := ybx.c 6 _ rfl; have y7 := ybx.c 7 _ rfl
                        have ly := ybx.lt
                        clear ybx
                        rw [HN.out] at y1
                        go_upto_region 32 with fail
                        clear y0 y1 y2 y3 y4 y5 y6 y7 ly
                        have CA := Lib.hid (mem_All B.out.mem)
                        go_wp2_with fail
                        refine CA.out.mono ?_
                        rintro e vB ⟨aB, cB, rfl, nB, xB⟩
                        have RB := Lib.hid nB.row
                        have NAB := Lib.hid (show ∀ b o, aB = some ⟨b, o, none⟩ → 0 < (ws4).length → ¬ isB gw b by
                          intro b o e1 e2 q
                          obtain ⟨g, e3, e4, _⟩ := nB.own e2
                          rw [e3] at e1
                          cases e1
                          have := B.out.lt.2
                          unfold isB at q
                          omega)
                        rw [LN4.out]
                        replace B := Lib.hid (B.out.ext xB)
                        replace C := Lib.hid (C.out.trans (Chg.of_ext xB))
                        clear CA nB
                        replace R8 := Lib.hid (R8.out.ext xB)
                        clear xB
                        go_upto_region 34 with fail
                        have HD := Lib.hid (HP.out.doc.chg C.out fun k e => .inl e)
                        have ZB := Lib.hid (HP.out.box.chg C.out HP.out.ng)
                        go_loopw [26, 27] (fun kv _ wx => ∃ m : Nat, m ≤ N ∧ kv = .int .i64 m ∧ Hid (Ext vB wx)) (fun kv _ _ => N - (intOf kv).toNat)
                        case atStart => exact ⟨0, Nat.zero_le _, rfl, Lib.hid (Ext.refl _)⟩
                        case round =>
                          obtain ⟨m, hm, rfl, XR⟩ := hrel
                          by_cases hlt4 : m < N
                          · as_aux_lemma =>
                            obtain ⟨b2, o2, rfl, cw⟩ := (R8.out.ext XR.out) m (by rw [LN2.out]; exact hlt4)
                            obtain ⟨b6, o6, rfl, cn⟩ := (RB.out.ext XR.out) m (by rw [LN4.out]; exact hlt4)
                            have m0 : (0 : Int) ≤ (m : Int) := Int.natCast_nonneg _
                            have m1 : (m : Int) < (N : Int) := by omega
                            have l2 := XR.out.cell (HD.out.plan.l n hnn 2 _ rfl)
                            rw [show addrOf c t (n : Int) (kOf c t (n : Int)) = A from HA.out] at l2
                            have zb := ZB.out.ext XR.out
                            have q0 := zb.c 0 _ rfl; have q1 := zb.c 1 _ rfl; have q2 := zb.c 2 _ rfl; have q3 := zb.c 3 _ rfl; have q4 := zb.c 4 _ rfl; have q5 := zb.c 5 _ rfl; have q6 := zb.c 6 _ rfl
                            have lz := zb.lt
                            clear zb
                            have ybx := ((Y0.out.ext HP.out.ext).chg C.out NY.out).ext XR.out
                            have y0 := ybx.c 0 _ rfl; have y1 := ybx.c 1 _ rfl; have y2 := ybx.c 2 _ rfl; have y3 := ybx.c 3 _ rfl; have y4 := ybx.c 4 _ rfl; have y5 := ybx.c 5 _ rfl; have y6 := ybx.c 6 _ rfl; have y7 := ybx.c 7 _ rfl
                            have ly := ybx.lt
                            clear ybx
                            rw [HN.out] at y1
                            rw [HI.out] at y2
                            have hn0 : (0 : Int) ≤ (n : Int) := Int.natCast_nonneg _
                            have hn1 : (n : Int) < (nS c t : Int) := by omega
                            have hw1 : IntKind.i64.wrap (A + 1) = A + 1 := IntWalk.i64_in _ (by omega)
                            have hw2 : IntKind.i64.wrap (A + 1 + (qi : Int)) = A + 1 + (qi : Int) := IntWalk.i64_in _ (by omega)
                            have nm := NN.out m
                            by_cases em : (m : Int) = A + 1 + (qi : Int)
                            · as_aux_lemma =>
                              have t2 : ((m : Int) == A + 1 + (qi : Int)) = true := by simpa using em
                              generalize nth ws2 m = va at *
                              generalize nth ws4 m = vb at *
                              clear nm em
                              by_cases ab : va = vb
                              · have t3 : (va != vb) = false := by simpa using ab
                                clear ab
                                go_upto_region 36 with fail
                                refine wp_region_quiet_lit (by kernel_rfl) (by kernel_rfl) ?_
                                repeat (any_goals (first | go_big_quiet_step (fail) | quiet_step (fail) | simp only [t0,t2,hw1,hw2]))
                                all_goals (refine wpQuiet_nil ?_; intro _ hw'; obtain ⟨nq, hw''⟩ := hw'; subst hw'')
                                go_upto_region 37 with fail
                                obtain ⟨w37, hw37⟩ : ∃ W, wr.drewN nq = W := ⟨_, rfl⟩
                                have x37 : Ext wr w37 := by rw [← hw37]; exact (Ext.refl _).drewN nq
                                rw [hw37]
                                replace cw := x37.cell cw; replace cn := x37.cell cn
                                go_quiet (fail)
                                go_wp2_with fail
                                go_roundw
                                case rel => exact ⟨m + 1, by omega, by go_num, Lib.hid (XR.out.trans (x37.trans ((Ext.refl _).drewN nq)))⟩
                                case measure => simp [intOf] <;> omega
                              · have t3 : (va != vb) = true := by simpa using ab
                                clear ab
                                go_upto_region 36 with fail
                                refine wp_region_quiet_lit (by kernel_rfl) (by kernel_rfl) ?_
                                repeat (any_goals (first | go_big_quiet_step (fail) | quiet_step (fail) | simp only [t0,t2,hw1,hw2]))
                                all_goals (refine wpQuiet_nil ?_; intro _ hw'; obtain ⟨nq, hw''⟩ := hw'; subst hw'')
                                go_upto_region 37 with fail
                                obtain ⟨w37, hw37⟩ : ∃ W, wr.drewN nq = W := ⟨_, rfl⟩
                                have x37 : Ext wr w37 := by rw [← hw37]; exact (Ext.refl _).drewN nq
                                rw [hw37]
                                replace cw := x37.cell cw; replace cn := x37.cell cn
                                go_quiet (fail)
                                go_wp2_with fail
                                go_roundw
                                case rel => exact ⟨m + 1, by omega, by go_num, Lib.hid (XR.out.trans (x37.trans ((Ext.refl _).drewN nq)))⟩
                                case measure => simp [intOf] <;> omega
                            · as_aux_lemma =>
                              have t2 : ((m : Int) == A + 1 + (qi : Int)) = false := by simpa using em
                              rw [if_neg em] at nm
                              rw [nm] at cn
                              generalize nth ws2 m = va at *
                              clear nm em
                              go_upto_region 36 with fail
                              refine wp_region_quiet_lit (by kernel_rfl) (by kernel_rfl) ?_
                              repeat (any_goals (first | go_big_quiet_step (fail) | quiet_step (fail) | simp only [t0,t2,hw1,hw2]))
                              all_goals (refine wpQuiet_nil ?_; intro _ hw'; obtain ⟨nq, hw''⟩ := hw'; subst hw'')
                              go_upto_region 37 with fail
                              obtain ⟨w37, hw37⟩ : ∃ W, wr.drewN nq = W := ⟨_, rfl⟩
                              have x37 : Ext wr w37 := by rw [← hw37]; exact (Ext.refl _).drewN nq
                              rw [hw37]
                              replace cw := x37.cell cw; replace cn := x37.cell cn
                              go_quiet (fail)
                              go_wp2_with fail
                              go_roundw
                              case rel => exact ⟨m + 1, by omega, by go_num, Lib.hid (XR.out.trans (x37.trans ((Ext.refl _).drewN nq)))⟩
                              case measure => simp [intOf] <;> omega
                          · as_aux_lemma =>
                            obtain rfl : m = N := by omega
                            have CA := Lib.hid (law11_awake wr (B.out.wid.ext XR.out))
                            go_wp2_with fail
                            refine CA.out.mono ?_
                            rintro e wb ⟨rfl, xc⟩
                            go_wp2_with fail
                            go_ret
                            exact ⟨rfl, X0.out.trans ((C.out.over HP.out.ext fun k e => by unfold isB at e; subst e; exact HP.out.lg).trans (XR.out.trans xc))⟩
                      · as_aux_lemma =>
                        have HI := Lib.hid hi; have NN := Lib.hid hnn2
                        have t0 : (g == 0) = false := by simpa using hg'
                        clear hg' hi hnn2 l4
                        have ybx := (Y0.out.ext HP.out.ext).chg C.out NY.out
                        have y0 := ybx.c 0 _ rfl; have y1 := ybx.c 1 _ rfl; have y2 := ybx.c 2 _ rfl; have y3 := ybx.c 3 _ rfl; have y4 := ybx.c 4 _ rfl; have y5 := ybx.c 5 _ rfl; have y6 := ybx.c 6 _ rfl; have y7 := ybx.c 7 _ rfl
                        have ly := ybx.lt
                        clear ybx
                        rw [HN.out] at y1
                        have CR := Lib.hid (body_Ref B.out E25.out)
                        go_wp2_with fail
                        refine CR.out.mono ?_
                        rintro e w9 ⟨rfl, x9⟩
                        replace B := Lib.hid (B.out.ext x9)
                        replace C := Lib.hid (C.out.trans (Chg.of_ext x9))
                        replace R8 := Lib.hid (R8.out.ext x9)
                        clear y0 y1 y2 y3 y4 y5 y6 y7 ly
                        clear CR x9
                        have ybx := (Y0.out.ext HP.out.ext).chg C.out NY.out
                        have y0 := ybx.c 0 _ rfl; have y1 := ybx.c 1 _ rfl; have y2 := ybx.c 2 _ rfl; have y3 := ybx.c 3 _ rfl; have y4 := ybx.c 4 _ rfl; have y5 := ybx.c 5 _ rfl; have y6 := ybx.c 6 _ rfl; have y7 := ybx.c 7 _ rfl
                        have ly := ybx.lt
                        clear ybx
                        rw [HN.out] at y1
                        have CW := Lib.hid (body_Word B.out E26.out)
                        go_wp2_with fail
                        refine CW.out.mono ?_
                        rintro e wA ⟨rfl, xA⟩
                        replace B := Lib.hid (B.out.ext xA)
                        replace C := Lib.hid (C.out.trans (Chg.of_ext xA))
                        replace R8 := Lib.hid (R8.out.ext xA)
                        clear y0 y1 y2 y3 y4 y5 y6 y7 ly
                        clear CW xA
                        have ybx := (Y0.out.ext HP.out.ext).chg C.out NY.out
                        have y0 := ybx.c 0 _ rfl; have y1 := ybx.c 1 _ rfl; have y2 := ybx.c 2 _ rfl; have y3 := ybx.c 3 _ rfl; have y4 := ybx.c 4 _ rfl; have y5 := ybx.c 5 _ rfl; have y6 := ybx.c 6 _ rfl; have y7 := ybx.c 7 _ rfl
                        have ly := ybx.lt
                        clear ybx
                        rw [HN.out] at y1
                        go_upto_region 32 with fail
                        clear y0 y1 y2 y3 y4 y5 y6 y7 ly
                        have CA := Lib.hid (mem_All B.out.mem)
                        go_wp2_with fail
                        refine CA.out.mono ?_
                        rintro e vB ⟨aB, cB, rfl, nB, xB⟩
                        have RB := Lib.hid nB.row
                        have NAB := Lib.hid (show ∀ b o, aB = some ⟨b, o, none⟩ → 0 < (ws4).length → ¬ isB gw b by
                          intro b o e1 e2 q
                          obtain ⟨g, e3, e4, _⟩ := nB.own e2
                          rw [e3] at e1
                          cases e1
                          have := B.out.lt.2
                          unfold isB at q
                          omega)
                        rw [LN4.out]
                        replace B := Lib.hid (B.out.ext xB)
                        replace C := Lib.hid (C.out.trans (Chg.of_ext xB))
                        clear CA nB
                        replace R8 := Lib.hid (R8.out.ext xB)
                        clear xB
                        go_upto_region 34 with fail
                        have HD := Lib.hid (HP.out.doc.chg C.out fun k e => .inl e)
                        have ZB := Lib.hid (HP.out.box.chg C.out HP.out.ng)
                        go_loopw [26, 27] (fun kv _ wx => ∃ m : Nat, m ≤ N ∧ kv = .int .i64 m ∧ Hid (Ext vB wx)) (fun kv _ _ => N - (intOf kv).toNat)
                        case atStart => exact ⟨0, Nat.zero_le _, rfl, Lib.hid (Ext.refl _)⟩
                        case round =>
                          obtain ⟨m, hm, rfl, XR⟩ := hrel
                          by_cases hlt4 : m < N
                          · as_aux_lemma =>
                            obtain ⟨b2, o2, rfl, cw⟩ := (R8.out.ext XR.out) m (by rw [LN2.out]; exact hlt4)
                            obtain ⟨b6, o6, rfl, cn⟩ := (RB.out.ext XR.out) m (by rw [LN4.out]; exact hlt4)
                            have m0 : (0 : Int) ≤ (m : Int) := Int.natCast_nonneg _
                            have m1 : (m : Int) < (N : Int) := by omega
                            have l2 := XR.out.cell (HD.out.plan.l n hnn 2 _ rfl)
                            rw [show addrOf c t (n : Int) (kOf c t (n : Int)) = A from HA.out] at l2
                            have zb := ZB.out.ext XR.out
                            have q0 := zb.c 0 _ rfl; have q1 := zb.c 1 _ rfl; have q2 := zb.c 2 _ rfl; have q3 := zb.c 3 _ rfl; have q4 := zb.c 4 _ rfl; have q5 := zb.c 5 _ rfl; have q6 := zb.c 6 _ rfl
                            have lz := zb.lt
                            clear zb
                            have ybx := ((Y0.out.ext HP.out.ext).chg C.out NY.out).ext XR.out
                            have y0 := ybx.c 0 _ rfl; have y1 := ybx.c 1 _ rfl; have y2 := ybx.c 2 _ rfl; have y3 := ybx.c 3 _ rfl; have y4 := ybx.c 4 _ rfl; have y5 := ybx.c 5 _ rfl; have y6 := ybx.c 6 _ rfl; have y7 := ybx.c 7 _ rfl
                            have ly := ybx.lt
                            clear ybx
                            rw [HN.out] at y1
                            rw [HI.out] at y2
                            have hn0 : (0 : Int) ≤ (n : Int) := Int.natCast_nonneg _
                            have hn1 : (n : Int) < (nS c t : Int) := by omega
                            have hw1 : IntKind.i64.wrap (A + 1) = A + 1 := IntWalk.i64_in _ (by omega)
                            have hw2 : IntKind.i64.wrap (A + 1 + (qi : Int)) = A + 1 + (qi : Int) := IntWalk.i64_in _ (by omega)
                            have nm := NN.out m
                            by_cases em : (m : Int) = A + 1 + (qi : Int)
                            · as_aux_lemma =>
                              have t2 : ((m : Int) == A + 1 + (qi : Int)) = true := by simpa using em
                              generalize nth ws2 m = va at *
                              generalize nth ws4 m = vb at *
                              clear nm em
                              by_cases ab : va = vb
                              · have t3 : (va != vb) = false := by simpa using ab
                                clear ab
                                go_upto_region 36 with fail
                                refine wp_region_quiet_lit (by kernel_rfl) (by kernel_rfl) ?_
                                repeat (any_goals (first | go_big_quiet_step (fail) | quiet_step (fail) | simp only [t0,t2,hw1,hw2]))
                                all_goals (refine wpQuiet_nil ?_; intro _ hw'; obtain ⟨nq, hw''⟩ := hw'; subst hw'')
                                go_upto_region 37 with fail
                                obtain ⟨w37, hw37⟩ : ∃ W, wr.drewN nq = W := ⟨_, rfl⟩
                                have x37 : Ext wr w37 := by rw [← hw37]; exact (Ext.refl _).drewN nq
                                rw [hw37]
                                replace cw := x37.cell cw; replace cn := x37.cell cn
                                go_quiet (fail)
                                go_wp2_with fail
                                go_roundw
                                case rel => exact ⟨m + 1, by omega, by go_num, Lib.hid (XR.out.trans (x37.trans ((Ext.refl _).drewN nq)))⟩
                                case measure => simp [intOf] <;> omega
                              · have t3 : (va != vb) = true := by simpa using ab
                                clear ab
                                go_upto_region 36 with fail
                                refine wp_region_quiet_lit (by kernel_rfl) (by kernel_rfl) ?_
                                repeat (any_goals (first | go_big_quiet_step (fail) | quiet_step (fail) | simp only [t0,t2,hw1,hw2]))
                                all_goals (refine wpQuiet_nil ?_; intro _ hw'; obtain ⟨nq, hw''⟩ := hw'; subst hw'')
                                go_upto_region 37 with fail
                                obtain ⟨w37, hw37⟩ : ∃ W, wr.drewN nq = W := ⟨_, rfl⟩
                                have x37 : Ext wr w37 := by rw [← hw37]; exact (Ext.refl _).drewN nq
                                rw [hw37]
                                replace cw := x37.cell cw; replace cn := x37.cell cn
                                go_quiet (fail)
                                go_wp2_with fail
                                go_roundw
                                case rel => exact ⟨m + 1, by omega, by go_num, Lib.hid (XR.out.trans (x37.trans ((Ext.refl _).drewN nq)))⟩
                                case measure => simp [intOf] <;> omega
                            · as_aux_lemma =>
                              have t2 : ((m : Int) == A + 1 + (qi : Int)) = false := by simpa using em
                              rw [if_neg em] at nm
                              rw [nm] at cn
                              generalize nth ws2 m = va at *
                              clear nm em
                              go_upto_region 36 with fail
                              refine wp_region_quiet_lit (by kernel_rfl) (by kernel_rfl) ?_
                              repeat (any_goals (first | go_big_quiet_step (fail) | quiet_step (fail) | simp only [t0,t2,hw1,hw2]))
                              all_goals (refine wpQuiet_nil ?_; intro _ hw'; obtain ⟨nq, hw''⟩ := hw'; subst hw'')
                              go_upto_region 37 with fail
                              obtain ⟨w37, hw37⟩ : ∃ W, wr.drewN nq = W := ⟨_, rfl⟩
                              have x37 : Ext wr w37 := by rw [← hw37]; exact (Ext.refl _).drewN nq
                              rw [hw37]
                              replace cw := x37.cell cw; replace cn := x37.cell cn
                              go_quiet (fail)
                              go_wp2_with fail
                              go_roundw
                              case rel => exact ⟨m + 1, by omega, by go_num, Lib.hid (XR.out.trans (x37.trans ((Ext.refl _).drewN nq)))⟩
                              case measure => simp [intOf] <;> omega
                          · as_aux_lemma =>
                            obtain rfl : m = N := by omega
                            have CA := Lib.hid (law11_awake wr (B.out.wid.ext XR.out))
                            go_wp2_with fail
                            refine CA.out.mono ?_
                            rintro e wb ⟨rfl, xc⟩
                            go_wp2_with fail
                            go_ret
                            exact ⟨rfl, X0.out.trans ((C.out.over HP.out.ext fun k e => by unfold isB at e; subst e; exact HP.out.lg).trans (XR.out.trans xc))⟩
                      · as_aux_lemma =>
                        have t0 : (g == 0) = false := by simpa using hg'
                        have t1 : (k' == 0) = false := by simpa using hk'
                        clear hg' hk'
                        have ybx := (Y0.out.ext HP.out.ext).chg C.out NY.out
                        have y0 := ybx.c 0 _ rfl; have y1 := ybx.c 1 _ rfl; have y2 := ybx.c 2 _ rfl; have y3 := ybx.c 3 _ rfl; have y4 := ybx.c 4 _ rfl; have y5 := ybx.c 5 _ rfl; have y6 := ybx.c 6 _ rfl; have y7 := ybx.c 7 _ rfl
                        have ly := ybx.lt
                        clear ybx
                        rw [HN.out] at y1
                        have CR := Lib.hid (body_Ref B.out E25.out)
                        go_wp2_with fail
                        refine CR.out.mono ?_
                        rintro e w9 ⟨rfl, x9⟩
                        replace B := Lib.hid (B.out.ext x9)
                        replace C := Lib.hid (C.out.trans (Chg.of_ext x9))
                        replace R8 := Lib.hid (R8.out.ext x9)
                        clear y0 y1 y2 y3 y4 y5 y6 y7 ly
                        clear CR x9
                        have ybx := (Y0.out.ext HP.out.ext).chg C.out NY.out
                        have y0 := ybx.c 0 _ rfl; have y1 := ybx.c 1 _ rfl; have y2 := ybx.c 2 _ rfl; have y3 := ybx.c 3 _ rfl; have y4 := ybx.c 4 _ rfl; have y5 := ybx.c 5 _ rfl; have y6 := ybx.c 6 _ rfl; have y7 := ybx.c 7 _ rfl
                        have ly := ybx.lt
                        clear ybx
                        rw [HN.out] at y1
                        have CW := Lib.hid (body_Word B.out E26.out)
                        go_wp2_with fail
                        refine CW.out.mono ?_
                        rintro e wA ⟨rfl, xA⟩
                        replace B := Lib.hid (B.out.ext xA)
                        replace C := Lib.hid (C.out.trans (Chg.of_ext xA))
                        replace R8 := Lib.hid (R8.out.ext xA)
                        clear y0 y1 y2 y3 y4 y5 y6 y7 ly
                        clear CW xA
                        have ybx := (Y0.out.ext HP.out.ext).chg C.out NY.out
                        have y0 := ybx.c 0 _ rfl; have y1 := ybx.c 1 _ rfl; have y2 := ybx.c 2 _ rfl; have y3 := ybx.c 3 _ rfl; have y4 := ybx.c 4 _ rfl; have y5 := ybx.c 5 _ rfl; have y6 := ybx.c 6 _ rfl; have y7 := ybx.c 7 _ rfl
                        have ly := ybx.lt
                        clear ybx
                        rw [HN.out] at y1
                        go_upto_region 32 with fail
                        clear y0 y1 y2 y3 y4 y5 y6 y7 ly
                        have CA := Lib.hid (mem_All B.out.mem)
                        go_wp2_with fail
                        refine CA.out.mono ?_
                        rintro e vB ⟨aB, cB, rfl, nB, xB⟩
                        have RB := Lib.hid nB.row
                        have NAB := Lib.hid (show ∀ b o, aB = some ⟨b, o, none⟩ → 0 < (ws4).length → ¬ isB gw b by
                          intro b o e1 e2 q
                          obtain ⟨g, e3, e4, _⟩ := nB.own e2
                          rw [e3] at e1
                          cases e1
                          have := B.out.lt.2
                          unfold isB at q
                          omega)
                        rw [LN4.out]
                        replace B := Lib.hid (B.out.ext xB)
                        replace C := Lib.hid (C.out.trans (Chg.of_ext xB))
                        clear CA nB
                        replace R8 := Lib.hid (R8.out.ext xB)
                        clear xB
                        go_upto_region 34 with fail
                        have HD := Lib.hid (HP.out.doc.chg C.out fun k e => .inl e)
                        have ZB := Lib.hid (HP.out.box.chg C.out HP.out.ng)
                        go_loopw [26, 27] (fun kv _ wx => ∃ m : Nat, m ≤ N ∧ kv = .int .i64 m ∧ Hid (Ext vB wx)) (fun kv _ _ => N - (intOf kv).toNat)
                        case atStart => exact ⟨0, Nat.zero_le _, rfl, Lib.hid (Ext.refl _)⟩
                        case round =>
                          obtain ⟨m, hm, rfl, XR⟩ := hrel
                          by_cases hlt4 : m < N
                          · as_aux_lemma =>
                            obtain ⟨b2, o2, rfl, cw⟩ := (R8.out.ext XR.out) m (by rw [LN2.out]; exact hlt4)
                            obtain ⟨b6, o6, rfl, cn⟩ := (RB.out.ext XR.out) m (by rw [LN4.out]; exact hlt4)
                            have m0 : (0 : Int) ≤ (m : Int) := Int.natCast_nonneg _
                            have m1 : (m : Int) < (N : Int) := by omega
                            generalize nth ws4 m = va at *
                            go_upto_region 36 with fail
                            refine wp_region_quiet_lit (by kernel_rfl) (by kernel_rfl) ?_
                            repeat (any_goals (first | go_big_quiet_step (fail) | quiet_step (fail) | simp only [t0,t1]))
                            all_goals (refine wpQuiet_nil ?_; intro _ hw'; obtain ⟨nq, hw''⟩ := hw'; subst hw'')
                            go_upto_region 37 with fail
                            obtain ⟨w37, hw37⟩ : ∃ W, wr.drewN nq = W := ⟨_, rfl⟩
                            have x37 : Ext wr w37 := by rw [← hw37]; exact (Ext.refl _).drewN nq
                            rw [hw37]
                            replace cw := x37.cell cw; replace cn := x37.cell cn
                            go_quiet (fail)
                            go_wp2_with fail
                            go_roundw
                            case rel => exact ⟨m + 1, by omega, by go_num, Lib.hid (XR.out.trans (x37.trans ((Ext.refl _).drewN nq)))⟩
                            case measure => simp [intOf] <;> omega
                          · as_aux_lemma =>
                            obtain rfl : m = N := by omega
                            have CA := Lib.hid (law11_awake wr (B.out.wid.ext XR.out))
                            go_wp2_with fail
                            refine CA.out.mono ?_
                            rintro e wb ⟨rfl, xc⟩
                            go_wp2_with fail
                            go_ret
                            exact ⟨rfl, X0.out.trans ((C.out.over HP.out.ext fun k e => by unfold isB at e; subst e; exact HP.out.lg).trans (XR.out.trans xc))⟩
    · have CH := Lib.hid (fun W : World => ref09_Has (lb := lb) (lc := lc) (fb := fb) (fc := fc) (mb := mb) (mc := mc) (ca := ca0) (cc := cc0) (c := c) (t := t) (s := y.slot) (w := W) false (by rw [decide_eq_false_iff_not]; exact hin))
      unfold dpv at CH
      clear hin
      have q0 := HP.out.box.c 0 _ rfl; have q1 := HP.out.box.c 1 _ rfl; have q2 := HP.out.box.c 2 _ rfl; have q3 := HP.out.box.c 3 _ rfl; have q4 := HP.out.box.c 4 _ rfl; have q5 := HP.out.box.c 5 _ rfl; have q6 := HP.out.box.c 6 _ rfl
      have lz := HP.out.box.lt
      have ybx := Y0.out.ext HP.out.ext
      have y0 := ybx.c 0 _ rfl; have y1 := ybx.c 1 _ rfl; have y2 := ybx.c 2 _ rfl; have y3 := ybx.c 3 _ rfl; have y4 := ybx.c 4 _ rfl; have y5 := ybx.c 5 _ rfl; have y6 := ybx.c 6 _ rfl; have y7 := ybx.c 7 _ rfl
      have ly := ybx.lt
      clear ybx
      go_wp2_with fail
      refine (CH.out _).mono ?_
      rintro e w2 ⟨rfl, x2⟩
      clear y0 y1 y2 y3 y4 y5 y6 y7 ly
      clear q0 q1 q2 q3 q4 q5 q6 lz CH
      have CA := Lib.hid (law11_awake w2 (HP.out.body.wid.ext x2))
      go_wp2_with fail
      refine CA.out.mono ?_
      rintro e w6 ⟨rfl, x6⟩
      go_wp2_with fail
      go_ret
      exact ⟨rfl, X0.out.trans (HP.out.ext.trans (x2.trans x6))⟩
  · have CM := Lib.hid (law11_made_no c 0 (by
      by_cases h1 : bigB c = true
      · exact .inl h1
      · exact .inr fun h2 => hg ⟨by simpa using h1, h2⟩) (H.out.ext X0.out))
    clear hg
    go_enter Tryz.func6, Tryz.ntmps6
    go_wp2_with fail
    clear hW0 hz b0 b1 b2 b3 b4 b5 bz
    refine CM.out.mono ?_
    rintro e w1 ⟨rfl, x1⟩
    have X1 := Lib.hid x1
    clear x1 CM
    go_wp2_with fail
    refine (law11_awake _ (HW.out.ext (X0.out.trans (X1.out.trans ((Ext.refl _).alloc _))))).mono ?_
    rintro e w2 ⟨rfl, x2⟩
    go_wp2_with fail
    go_ret
    exact ⟨rfl, X0.out.trans (X1.out.trans (((Ext.refl _).alloc _).trans x2))⟩

end Go.Proofs.YtnbngcagnchkdaaGreatDoor
