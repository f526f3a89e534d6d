/-
  The walk of commonagelaw06.ConfApart.
-/
import Derived.Test.YtmjgmgaklgcdnaaLaw06a
import Derived.Test.YtmjgmgaklgcdnaaLaw06R
import Derived.Test.YtmjgmgaklgcdnaaOwnW
namespace Go.Proofs.Ytmjgmgaklgcdnaa
open Go.RowKit

theorem stOther {W : World} {b i j : Nat} {u v : Value} (h : i ≠ j) (hc : W.cell? ⟨b, j, none⟩ = some v) : (W.setCell ⟨b, i, none⟩ u).cell? ⟨b, j, none⟩ = some v := by
  have := World.cell?_setCell_other W ⟨b, i, none⟩ ⟨b, j, none⟩ u (by intro e; cases e; exact h rfl)
  rw [this]; exact hc
theorem stSame {W : World} {b j : Nat} {u v : Value} (hc : W.cell? ⟨b, j, none⟩ = some v) : (W.setCell ⟨b, j, none⟩ u).cell? ⟨b, j, none⟩ = some u := World.cell?_setCell_same W _ _ hc
/-- One tenant stored. -/
theorem TenAt.set4 {W : World} {g i : Nat} {ts : List Ten} (h : TenAt W (some ⟨g, 0, none⟩) ts) (hi : i < ts.length) (x : Ten) :
    TenAt ((((W.setCell ⟨g, i * 4, none⟩ (.int .i64 x.q)).setCell ⟨g, i * 4 + 1, none⟩ (.int .i64 x.tr)).setCell ⟨g, i * 4 + 2, none⟩ (.int .i64 x.cp)).setCell ⟨g, i * 4 + 3, none⟩ (.int .i64 x.sst)) (some ⟨g, 0, none⟩) (ts.set i x) := by
  intro j hj
  rw [List.length_set] at hj
  obtain ⟨b, o, e, e0, e1, e2, e3⟩ := h j hj
  cases e
  rw [Nat.zero_add] at e0 e1 e2 e3
  have hx : tnth (ts.set i x) j = if i = j then x else tnth ts j := by
    unfold tnth
    by_cases c : i = j
    · subst c; simp [List.getD, hi]
    · simp [List.getD, c]
  rw [hx]
  refine ⟨g, 0, rfl, ?_⟩
  rw [Nat.zero_add]
  by_cases c : i = j
  · subst c
    rw [if_pos rfl]
    exact ⟨stOther (by omega) (stOther (by omega) (stOther (by omega) (stSame e0))), stOther (by omega) (stOther (by omega) (stSame (stOther (by omega) e1))), stOther (by omega) (stSame (stOther (by omega) (stOther (by omega) e2))), stSame (stOther (by omega) (stOther (by omega) (stOther (by omega) e3)))⟩
  · rw [if_neg c]
    exact ⟨stOther (by omega) (stOther (by omega) (stOther (by omega) (stOther (by omega) e0))), stOther (by omega) (stOther (by omega) (stOther (by omega) (stOther (by omega) e1))), stOther (by omega) (stOther (by omega) (stOther (by omega) (stOther (by omega) e2))), stOther (by omega) (stOther (by omega) (stOther (by omega) (stOther (by omega) e3)))⟩
theorem Six.away {W : World} {b : Nat} {v0 v1 v2 v3 v4 v5 : Value} (h : Six W b v0 v1 v2 v3 v4 v5) {p : Addr} (hp : p.block ≠ b) (u : Value) : Six (W.setCell p u) b v0 v1 v2 v3 v4 v5 := by
  refine ⟨?_, ?_, ?_, ?_, ?_, ?_, fun o => by simpa using h.fz o⟩
  · rw [World.cell?_setCell_far _ _ _ _ (by exact hp)]; exact h.c0
  · rw [World.cell?_setCell_far _ _ _ _ (by exact hp)]; exact h.c1
  · rw [World.cell?_setCell_far _ _ _ _ (by exact hp)]; exact h.c2
  · rw [World.cell?_setCell_far _ _ _ _ (by exact hp)]; exact h.c3
  · rw [World.cell?_setCell_far _ _ _ _ (by exact hp)]; exact h.c4
  · rw [World.cell?_setCell_far _ _ _ _ (by exact hp)]; exact h.c5
theorem TenAt.away {W : World} {g : Nat} {ts : List Ten} (h : TenAt W (some ⟨g, 0, none⟩) ts) {p : Addr} (hp : p.block ≠ g) (u : Value) : TenAt (W.setCell p u) (some ⟨g, 0, none⟩) ts := by
  intro i hi
  obtain ⟨b, o, e, e0, e1, e2, e3⟩ := h i hi
  cases e
  refine ⟨g, 0, rfl, ?_, ?_, ?_, ?_⟩ <;> (rw [World.cell?_setCell_far _ _ _ _ (by exact hp)]; assumption)
theorem At.away {k : IntKind} {W : World} {g : Nat} {xs : List Int} (h : At k W (some ⟨g, 0, none⟩) xs) {p : Addr} (hp : p.block ≠ g) (u : Value) : At k (W.setCell p u) (some ⟨g, 0, none⟩) xs := by
  intro i hi
  obtain ⟨b, o, e, e0⟩ := h i hi
  cases e
  refine ⟨g, 0, rfl, ?_⟩
  rw [World.cell?_setCell_far _ _ _ _ (by exact hp)]; exact e0
theorem At.store {k : IntKind} {w : World} {g j : Nat} {xs : List Int} (h : At k w (some ⟨g, 0, none⟩) xs) (hj : j < xs.length) (v : Int) : At k (w.setCell ⟨g, j, none⟩ (.int k v)) (some ⟨g, 0, none⟩) (xs.set j v) := by
  refine At.mk fun i hi => ?_
  rw [List.length_set] at hi
  rw [Nat.zero_add]
  obtain ⟨b, o, e, e0⟩ := h i hi
  cases e
  rw [Nat.zero_add] at e0
  have hx : nth (xs.set j v) i = if j = i then v else nth xs i := by
    unfold nth
    by_cases c : j = i
    · subst c; simp [List.getD, hj]
    · simp [List.getD, c]
  rw [hx]
  by_cases c : j = i
  · subst c; rw [if_pos rfl]; exact stSame e0
  · rw [if_neg c]; exact stOther c e0

/-- o's box, its tenants and its classes, all of its own. -/
structure ApO (w0 : World) (c : Conf) (ob gt gc kc kt : Nat) (ts' : List Ten) (cl' : List Int) (W : World) : Prop where
  six : Six W ob (.slice (some ⟨gc, 0, none⟩) c.cl.length kc) (.int .i64 c.page) (.slice (some ⟨gt, 0, none⟩) c.ts.length kt) (.int .i64 c.wk) (.int .i64 c.gr) (.int .i64 c.gens)
  ten : TenAt W (some ⟨gt, 0, none⟩) ts'
  tfz : ∀ o, W.frozen? ⟨gt, o, none⟩ = false
  row : At .i64 W (some ⟨gc, 0, none⟩) cl'
  cfz : ∀ o, W.frozen? ⟨gc, o, none⟩ = false
  sep : gt ≠ ob ∧ gc ≠ ob ∧ gt ≠ gc
  lo : w0.heap.size ≤ gt ∧ w0.heap.size ≤ gc ∧ w0.heap.size ≤ ob
  hi : gt < W.heap.size ∧ gc < W.heap.size
  ext : Ext w0 W
  tl : ts'.length = c.ts.length
  cln : cl'.length = c.cl.length
  cap : c.cl.length ≤ kc ∧ kc ≤ maxLen ∧ c.ts.length ≤ kt ∧ kt ≤ maxLen
theorem ApO.go {w0 : World} {c : Conf} {ob gt gc kc kt : Nat} {ts' : List Ten} {cl' : List Int} {W W' : World} (h : ApO w0 c ob gt gc kc kt ts' cl' W) (hx : Ext W W') : ApO w0 c ob gt gc kc kt ts' cl' W' :=
  ⟨h.six.ext hx, h.ten.ext hx, fun o => by rw [hx.frozen (p := ⟨gt, o, none⟩) h.hi.1]; exact h.tfz o, h.row.ext hx, fun o => by rw [hx.frozen (p := ⟨gc, o, none⟩) h.hi.2]; exact h.cfz o, h.sep, h.lo,
    ⟨Nat.lt_of_lt_of_le h.hi.1 hx.size, Nat.lt_of_lt_of_le h.hi.2 hx.size⟩, h.ext.trans hx, h.tl, h.cln, h.cap⟩
theorem ApO.tset {w0 : World} {c : Conf} {ob gt gc kc kt : Nat} {ts' : List Ten} {cl' : List Int} {W : World} (h : ApO w0 c ob gt gc kc kt ts' cl' W) {i : Nat} (hi : i < c.ts.length) (x : Ten) :
    ApO w0 c ob gt gc kc kt (ts'.set i x) cl' ((((W.setCell ⟨gt, i * 4, none⟩ (.int .i64 x.q)).setCell ⟨gt, i * 4 + 1, none⟩ (.int .i64 x.tr)).setCell ⟨gt, i * 4 + 2, none⟩ (.int .i64 x.cp)).setCell ⟨gt, i * 4 + 3, none⟩ (.int .i64 x.sst)) := by
  obtain ⟨s1, s2, s3⟩ := h.sep
  have f1 : ∀ (a : Nat), (⟨gt, a, none⟩ : Addr).block ≠ ob := fun _ => s1
  have f2 : ∀ (a : Nat), (⟨gt, a, none⟩ : Addr).block ≠ gc := fun _ => s3
  refine ⟨(((h.six.away (f1 _) _).away (f1 _) _).away (f1 _) _).away (f1 _) _, h.ten.set4 (by rw [h.tl]; exact hi) x, fun o => by simpa using h.tfz o, (((h.row.away (f2 _) _).away (f2 _) _).away (f2 _) _).away (f2 _) _, fun o => by simpa using h.cfz o, h.sep, h.lo, by simpa using h.hi, ?_, by rw [List.length_set]; exact h.tl, h.cln, h.cap⟩
  exact (((h.ext.setCell (p := ⟨gt, i * 4, none⟩) h.lo.1 _).setCell (p := ⟨gt, i * 4 + 1, none⟩) h.lo.1 _).setCell (p := ⟨gt, i * 4 + 2, none⟩) h.lo.1 _).setCell (p := ⟨gt, i * 4 + 3, none⟩) h.lo.1 _
theorem ApO.cset {w0 : World} {c : Conf} {ob gt gc kc kt : Nat} {ts' : List Ten} {cl' : List Int} {W : World} (h : ApO w0 c ob gt gc kc kt ts' cl' W) {i : Nat} (hi : i < c.cl.length) (y : Int) :
    ApO w0 c ob gt gc kc kt ts' (cl'.set i y) (W.setCell ⟨gc, i, none⟩ (.int .i64 y)) := by
  obtain ⟨s1, s2, s3⟩ := h.sep
  exact ⟨h.six.away (p := ⟨gc, i, none⟩) s2 _, h.ten.away (p := ⟨gc, i, none⟩) (Ne.symm s3) _, fun o => by simpa using h.tfz o, h.row.store (by rw [h.cln]; exact hi) y, fun o => by simpa using h.cfz o, h.sep, h.lo, by simpa using h.hi, h.ext.setCell (p := ⟨gc, i, none⟩) h.lo.2.1 _, h.tl, by rw [List.length_set]; exact h.cln, h.cap⟩
theorem ApO.cfg {w0 : World} {c : Conf} {ob gt gc kc kt : Nat} {ts' : List Ten} {W : World} (h : ApO w0 c ob gt gc kc kt ts' c.cl W) : CfgAt W (some ⟨gc, 0, none⟩) (some ⟨gt, 0, none⟩) kc kt { c with ts := ts' } :=
  ⟨h.row, h.ten, Nat.le_trans h.cap.1 h.cap.2.1, by have := h.cap; have := h.tl; show ts'.length ≤ maxLen; omega, h.cap.1, by have := h.cap; have := h.tl; show ts'.length ≤ kt; omega, h.cap.2.1, h.cap.2.2.2⟩

theorem mod_nat' {tn : Int} {n : Nat} (hn : 1 ≤ n) : ∃ i : Nat, tn % (n : Int) = i ∧ i < n := by
  have h1 := Int.emod_nonneg tn (show (n : Int) ≠ 0 by omega)
  have h2 := Int.emod_lt_of_pos tn (show (0 : Int) < n by omega)
  exact ⟨(tn % n).toNat, by omega, by omega⟩
theorem conf_CheckN' {ca ta : Option Addr} {cc tc : Nat} (d : Conf) (n : Nat) (p : Int) {w : World} (hn : d.ts.length = n) (hp : kcheck d = p) (h : CfgAt w ca ta cc tc d) :
    Calls Try.prog 45 #[.agg #[.slice ca d.cl.length cc, .int .i64 d.page, .slice ta n tc, .int .i64 d.wk, .int .i64 d.gr, .int .i64 d.gens]] w fun e w' => e = .returned (.int .i64 p) ∧ Ext w w' := by
  subst hn; exact conf_Check' d p hp h
theorem conf_RegionN' {ca ta : Option Addr} {cc tc : Nat} (d : Conf) (n : Nat) (t p q : Int) {w : World} (hn : d.ts.length = n) (hpq : kregion d t = (p, q)) (h : CfgAt w ca ta cc tc d) :
    Calls Try.prog 48 #[.agg #[.slice ca d.cl.length cc, .int .i64 d.page, .slice ta n tc, .int .i64 d.wk, .int .i64 d.gr, .int .i64 d.gens], .int .i64 t] w fun e w' => e = .returned (.tuple #[.int .i64 p, .int .i64 q]) ∧ Ext w w' := by
  subst hn; exact conf_Region d t p q hpq h
theorem others_len (c : Conf) (t : Nat) (x : Ten) : (others c t x).ts.length = c.ts.length := othTo_len _ _ _ _
theorem kcheck_two {c : Conf} (h : ¬ kcheck c = 0) : kcheck c = 2 := by rcases kcheck_01 c with h1 | h1; exact absurd h1 h; exact h1

set_option maxRecDepth 100000 in
set_option maxHeartbeats 16000000 in
theorem law06_ConfApart {ca ta : Option Addr} {cc tc : Nat} (c : Conf) (tn : Int) (x : Ten) (w : World) (htn : 0 ≤ tn ∧ tn ≤ 255) (h : CfgAt w ca ta cc tc c) :
    Calls Try.prog 11 #[.agg #[.slice ca c.cl.length cc, .int .i64 c.page, .slice ta c.ts.length tc, .int .i64 c.wk, .int .i64 c.gr, .int .i64 c.gens], .int .u8 tn, .agg #[.int .i64 x.q, .int .i64 x.tr, .int .i64 x.cp, .int .i64 x.sst]] w fun e w' => e = .returned (.bool true) ∧ Ext w w' := by
  have hx := (Ext.refl w).alloc (.cells #[.slice ca c.cl.length cc, .int .i64 c.page, .slice ta c.ts.length tc, .int .i64 c.wk, .int .i64 c.gr, .int .i64 c.gens] 25)
  have h0 : Ext (w.alloc (.cells #[.slice ca c.cl.length cc, .int .i64 c.page, .slice ta c.ts.length tc, .int .i64 c.wk, .int .i64 c.gr, .int .i64 c.gens] 25)) ((w.alloc (.cells #[.slice ca c.cl.length cc, .int .i64 c.page, .slice ta c.ts.length tc, .int .i64 c.wk, .int .i64 c.gr, .int .i64 c.gens] 25)).alloc (.cells #[.int .i64 x.q, .int .i64 x.tr, .int .i64 x.cp, .int .i64 x.sst] 86)) := (Ext.refl _).alloc _
  have h3 := Ext.refl ((w.alloc (.cells #[.slice ca c.cl.length cc, .int .i64 c.page, .slice ta c.ts.length tc, .int .i64 c.wk, .int .i64 c.gr, .int .i64 c.gens] 25)).alloc (.cells #[.int .i64 x.q, .int .i64 x.tr, .int .i64 x.cp, .int .i64 x.sst] 86))
  have OB : ∀ W, Ext ((w.alloc (.cells #[.slice ca c.cl.length cc, .int .i64 c.page, .slice ta c.ts.length tc, .int .i64 c.wk, .int .i64 c.gr, .int .i64 c.gens] 25)).alloc (.cells #[.int .i64 x.q, .int .i64 x.tr, .int .i64 x.cp, .int .i64 x.sst] 86)) W → W.cell? ⟨w.heap.size + 1, 0, none⟩ = some (.int .i64 x.q) ∧ W.cell? ⟨w.heap.size + 1, 1, none⟩ = some (.int .i64 x.tr) ∧ W.cell? ⟨w.heap.size + 1, 2, none⟩ = some (.int .i64 x.cp) ∧ W.cell? ⟨w.heap.size + 1, 3, none⟩ = some (.int .i64 x.sst) := fun W hW =>
    ⟨hW.cell (by simp), hW.cell (by simp), hW.cell (by simp), hW.cell (by simp)⟩
  have OB := Lib.hid OB
  have tm := h.tm
  have cm := h.cm
  unfold maxLen at tm cm
  obtain ⟨t0, t255⟩ := htn
  have H := Lib.hid h; clear h
  obtain ⟨b0, b1, b2, b3, b4, b5⟩ := box6 (h0.trans h3)
  by_cases hs : c.cl.length ≤ 50 ∧ c.ts.length ≤ 50
  · have HS := Lib.hid (show decide (c.cl.length ≤ 50 ∧ c.ts.length ≤ 50) = true by simpa using hs)
    have B1 := Lib.hid hs.1; have B2 := Lib.hid hs.2
    clear hs
    by_cases hk0 : kcheck c = 0
    · have ho := kcheck_ok hk0
      have H0 := Lib.hid hk0
      obtain ⟨i, hmod, hi⟩ := mod_nat' (tn := tn) ho.head.2.2.1
      have t1 := ho.head.2.2.1
      have t8 := ho.head.2.2.2.1
      have c8 := ho.cl.most
      have c1 := ho.cl.pos
      have R0 := Lib.hid (kregion_yes (there_mk (i := i) (j := 0) hk0 hi c1))
      have R1 := Lib.hid (fun hk => (others_region (x := x) hi hk0 hk c1).trans (kregion_yes (there_mk (i := i) (j := 0) hk0 hi c1)))
      have OL := Lib.hid (others_len c i x)
      obtain ⟨pw, hpw⟩ : ∃ p, wordsOf c i = p := ⟨_, rfl⟩
      rw [hpw] at R0 R1
      clear hk0 ho hpw
      go_enter Try.func11, Try.ntmps11
      go_wp2_with fail
      refine (ref06_Small c true HS.out (H.out.ext (hx.trans (h0.trans h3)))).mono ?_
      rintro e w1 ⟨rfl, h2⟩
      replace h3 := h3.trans h2
      clear h2
      clear b0 b1 b2 b3 b4 b5
      obtain ⟨b0, b1, b2, b3, b4, b5⟩ := box6 (h0.trans h3)
      go_wp2_with fail
      refine (conf_Check' c 0 H0.out (H.out.ext (hx.trans (h0.trans h3)))).mono ?_
      rintro e w2 ⟨rfl, h2⟩
      replace h3 := h3.trans h2
      clear h2
      clear b0 b1 b2 b3 b4 b5
      obtain ⟨b0, b1, b2, b3, b4, b5⟩ := box6 (h0.trans h3)
      go_wp2_with fail
      refine (conf_Own c (H.out.ext (hx.trans (h0.trans h3))) B1.out B2.out).mono ?_
      rintro e w3 ⟨a1, a2, kc, kt, rfl, n1, n2, sep, h2⟩
      obtain ⟨gc, rfl, gc1, gc2, gc3⟩ := n1.own c1
      obtain ⟨gt, rfl, gt1, gt2, gt3⟩ := n2.own t1
      have hne : gc ≠ gt := sep _ _ rfl rfl c1 t1
      have hz := h3.size
      have AP0 : Hid (ApO ((w.alloc (.cells #[.slice ca c.cl.length cc, .int .i64 c.page, .slice ta c.ts.length tc, .int .i64 c.wk, .int .i64 c.gr, .int .i64 c.gens] 25)).alloc (.cells #[.int .i64 x.q, .int .i64 x.tr, .int .i64 x.cp, .int .i64 x.sst] 86)) c w3.heap.size gt gc kc kt (othTo i x c.ts 0) c.cl (w3.alloc (.cells #[.slice (some ⟨gc, 0, none⟩) c.cl.length kc, .int .i64 c.page, .slice (some ⟨gt, 0, none⟩) c.ts.length kt, .int .i64 c.wk, .int .i64 c.gr, .int .i64 c.gens] 25))) := Lib.hid
        ⟨Six.new _ _ _ _ _ _ _ _ rfl, by rw [othTo_zero]; exact n2.row.ext ((Ext.refl _).alloc _), fun o => by rw [((Ext.refl w3).alloc _).frozen (p := ⟨gt, o, none⟩) gt2]; exact gt3 o, n1.row.ext ((Ext.refl _).alloc _), fun o => by rw [((Ext.refl w3).alloc _).frozen (p := ⟨gc, o, none⟩) gc2]; exact gc3 o,
          ⟨by omega, by omega, Ne.symm hne⟩, ⟨Nat.le_trans hz gt1, Nat.le_trans hz gc1, Nat.le_trans hz h2.size⟩, ⟨by simp; omega, by simp; omega⟩, (h3.trans h2).alloc _, othTo_len _ _ _ _, rfl, n1.cap1, n1.cap2, n2.cap1, n2.cap2⟩
      replace h3 := h3.trans h2
      clear b0 b1 b2 b3 b4 b5
      obtain ⟨b0, b1, b2, b3, b4, b5⟩ := box6 (h0.trans h3)
      have n0 : w.heap.size < w3.heap.size := cell_lt b0
      clear n1 n2 sep h2 gc1 gc2 gc3 gt1 gt2 gt3 hne hz
      go_wp2_with fail
      clear b0 b1 b2 b3 b4 b5 n0 h3
      generalize w3.heap.size = ob at *
      go_loopw [9] (fun kv wr => ∃ k : Nat, k ≤ c.ts.length ∧ kv = .int .i64 k ∧ Hid (ApO ((w.alloc (.cells #[.slice ca c.cl.length cc, .int .i64 c.page, .slice ta c.ts.length tc, .int .i64 c.wk, .int .i64 c.gr, .int .i64 c.gens] 25)).alloc (.cells #[.int .i64 x.q, .int .i64 x.tr, .int .i64 x.cp, .int .i64 x.sst] 86)) c ob gt gc kc kt (othTo i x c.ts k) c.cl wr)) (fun kv _ => c.ts.length - (intOf kv).toNat)
      case atStart => exact ⟨0, Nat.zero_le _, rfl, AP0⟩
      case round =>
        clear AP0
        obtain ⟨k, hk, rfl, AP⟩ := hrel
        obtain ⟨wo, hwo⟩ : ∃ wo : World, wo = wr := ⟨_, rfl⟩
        subst hwo
        have h3 := AP.out.ext
        obtain ⟨d0, d1, d2, d3, d4, d5, _⟩ := AP.out.six
        obtain ⟨o0, o1, o2, o3⟩ := OB.out _ h3
        by_cases hlt : k < c.ts.length
        · by_cases hki : k = i
          · have e := Lib.hid (othTo_same (x := x) (ts := c.ts) hki)
            have g1 : ((k : Int) != (i : Int)) = false := by simp; omega
            have g2 : (k != i) = false := by simp; omega
            go_wp2_with fail
            go_roundw
            case rel => exact ⟨k + 1, by omega, by go_num, by rw [e.out]; exact AP⟩
            case measure => simp [intOf]; omega
          · have e := Lib.hid (othTo_set (x := x) (ts := c.ts) hki hlt)
            have g1 : ((k : Int) != (i : Int)) = true := by simp; omega
            have g2 : (k != i) = true := by simp; omega
            have AP2 := Lib.hid (AP.out.tset hlt x)
            obtain ⟨m0, m1, m2, m3⟩ := AP.out.ten k (by rw [AP.out.tl]; exact hlt) |>.elim fun b h => h.elim fun o h => by
              obtain ⟨e, h0, h1, h2, h3⟩ := h
              cases e
              rw [Nat.zero_add] at h0 h1 h2 h3
              exact (⟨h0, h1, h2, h3⟩ : _ ∧ _ ∧ _ ∧ _)
            have z0 := AP.out.tfz (k * 4); have z1 := AP.out.tfz (k * 4 + 1); have z2 := AP.out.tfz (k * 4 + 2); have z3 := AP.out.tfz (k * 4 + 3)
            go_wp2_with fail
            go_roundw
            case rel => exact ⟨k + 1, by omega, by go_num, by rw [e.out]; exact AP2⟩
            case measure => simp [intOf]; omega
        · obtain rfl : k = c.ts.length := by omega
          clear o0 o1 o2 o3
          obtain ⟨b0, b1, b2, b3, b4, b5⟩ := box6 (h0.trans h3)
          go_wp2_with fail
          refine (conf_RegionN' c c.ts.length i pw 0 rfl R0.out (H.out.ext (hx.trans (h0.trans h3)))).mono ?_
          rintro e w4 ⟨rfl, h2⟩
          replace h3 := h3.trans h2
          replace AP := Lib.hid (AP.out.go h2)
          clear h2
          clear b0 b1 b2 b3 b4 b5
          clear d0 d1 d2 d3 d4 d5
          obtain ⟨b0, b1, b2, b3, b4, b5⟩ := box6 (h0.trans h3)
          obtain ⟨d0, d1, d2, d3, d4, d5, _⟩ := AP.out.six
          go_wp2_with fail
          by_cases hk0 : kcheck (others c i x) = 0
          · have K0 := Lib.hid hk0
            clear hk0
            refine (conf_CheckN' (others c i x) c.ts.length 0 OL.out K0.out AP.out.cfg).mono ?_
            rintro e w5 ⟨rfl, h2⟩
            replace h3 := h3.trans h2
            replace AP := Lib.hid (AP.out.go h2)
            clear h2
            clear b0 b1 b2 b3 b4 b5
            clear d0 d1 d2 d3 d4 d5
            obtain ⟨b0, b1, b2, b3, b4, b5⟩ := box6 (h0.trans h3)
            obtain ⟨d0, d1, d2, d3, d4, d5, _⟩ := AP.out.six
            go_wp2_with fail
            refine (conf_RegionN' (others c i x) c.ts.length i pw 0 OL.out (R1.out K0.out) AP.out.cfg).mono ?_
            rintro e w6 ⟨rfl, h2⟩
            replace h3 := h3.trans h2
            replace AP := Lib.hid (AP.out.go h2)
            clear h2
            clear b0 b1 b2 b3 b4 b5
            clear d0 d1 d2 d3 d4 d5
            obtain ⟨b0, b1, b2, b3, b4, b5⟩ := box6 (h0.trans h3)
            obtain ⟨d0, d1, d2, d3, d4, d5, _⟩ := AP.out.six
            go_wp2_with fail
            clear b0 b1 b2 b3 b4 b5 d0 d1 d2 d3 d4 d5 h3
            go_loopw [14] (fun kv wr => ∃ (k : Nat) (cl' : List Int), k ≤ c.cl.length ∧ kv = .int .i64 k ∧ Hid (ApO ((w.alloc (.cells #[.slice ca c.cl.length cc, .int .i64 c.page, .slice ta c.ts.length tc, .int .i64 c.wk, .int .i64 c.gr, .int .i64 c.gens] 25)).alloc (.cells #[.int .i64 x.q, .int .i64 x.tr, .int .i64 x.cp, .int .i64 x.sst] 86)) c ob gt gc kc kt (othTo i x c.ts c.ts.length) cl' wr)) (fun kv _ => c.cl.length - (intOf kv).toNat)
            case atStart => exact ⟨0, c.cl, Nat.zero_le _, rfl, AP⟩
            case round =>
              clear AP
              obtain ⟨k, cl', hk, rfl, AP⟩ := hrel
              obtain ⟨wo, hwo⟩ : ∃ wo : World, wo = wr := ⟨_, rfl⟩
              subst hwo
              have h3 := AP.out.ext
              obtain ⟨d0, d1, d2, d3, d4, d5, _⟩ := AP.out.six
              by_cases hlt : k < c.cl.length
              · have AP2 := Lib.hid (AP.out.cset hlt 0)
                obtain ⟨_, _, e, m0⟩ := AP.out.row k (by rw [AP.out.cln]; exact hlt)
                cases e
                rw [Nat.zero_add] at m0
                have z0 := AP.out.cfz k
                go_wp2_with fail
                go_roundw
                case rel => exact ⟨k + 1, _, by omega, by go_num, AP2⟩
                case measure => simp [intOf]; omega
              · obtain rfl : k = c.cl.length := by omega
                obtain ⟨b0, b1, b2, b3, b4, b5⟩ := box6 (h0.trans h3)
                go_wp2_with fail
                refine (conf_RegionN' c c.ts.length i pw 0 rfl R0.out (H.out.ext (hx.trans (h0.trans h3)))).mono ?_
                rintro e w7 ⟨rfl, h2⟩
                replace h3 := h3.trans h2
                clear h2
                clear b0 b1 b2 b3 b4 b5
                obtain ⟨b0, b1, b2, b3, b4, b5⟩ := box6 (h0.trans h3)
                go_wp2_with fail
                refine (conf_Check' c 0 H0.out (H.out.ext (hx.trans (h0.trans h3)))).mono ?_
                rintro e w8 ⟨rfl, h2⟩
                replace h3 := h3.trans h2
                clear h2
                clear b0 b1 b2 b3 b4 b5
                obtain ⟨b0, b1, b2, b3, b4, b5⟩ := box6 (h0.trans h3)
                go_wp2_with fail
                refine (law06_awake _).mono ?_
                rintro e wz ⟨rfl, h2⟩
                go_wp2_with fail
                go_ret
                exact ⟨rfl, hx.trans (h0.trans (h3.trans h2))⟩
          · have K2 := Lib.hid (kcheck_two hk0)
            clear hk0
            refine (conf_CheckN' (others c i x) c.ts.length 2 OL.out K2.out AP.out.cfg).mono ?_
            rintro e w5 ⟨rfl, h2⟩
            replace h3 := h3.trans h2
            replace AP := Lib.hid (AP.out.go h2)
            clear h2
            clear b0 b1 b2 b3 b4 b5
            clear d0 d1 d2 d3 d4 d5
            obtain ⟨b0, b1, b2, b3, b4, b5⟩ := box6 (h0.trans h3)
            obtain ⟨d0, d1, d2, d3, d4, d5, _⟩ := AP.out.six
            go_wp2_with fail
            clear b0 b1 b2 b3 b4 b5 d0 d1 d2 d3 d4 d5 h3
            go_loopw [14] (fun kv wr => ∃ (k : Nat) (cl' : List Int), k ≤ c.cl.length ∧ kv = .int .i64 k ∧ Hid (ApO ((w.alloc (.cells #[.slice ca c.cl.length cc, .int .i64 c.page, .slice ta c.ts.length tc, .int .i64 c.wk, .int .i64 c.gr, .int .i64 c.gens] 25)).alloc (.cells #[.int .i64 x.q, .int .i64 x.tr, .int .i64 x.cp, .int .i64 x.sst] 86)) c ob gt gc kc kt (othTo i x c.ts c.ts.length) cl' wr)) (fun kv _ => c.cl.length - (intOf kv).toNat)
            case atStart => exact ⟨0, c.cl, Nat.zero_le _, rfl, AP⟩
            case round =>
              clear AP
              obtain ⟨k, cl', hk, rfl, AP⟩ := hrel
              obtain ⟨wo, hwo⟩ : ∃ wo : World, wo = wr := ⟨_, rfl⟩
              subst hwo
              have h3 := AP.out.ext
              obtain ⟨d0, d1, d2, d3, d4, d5, _⟩ := AP.out.six
              by_cases hlt : k < c.cl.length
              · have AP2 := Lib.hid (AP.out.cset hlt 0)
                obtain ⟨_, _, e, m0⟩ := AP.out.row k (by rw [AP.out.cln]; exact hlt)
                cases e
                rw [Nat.zero_add] at m0
                have z0 := AP.out.cfz k
                go_wp2_with fail
                go_roundw
                case rel => exact ⟨k + 1, _, by omega, by go_num, AP2⟩
                case measure => simp [intOf]; omega
              · obtain rfl : k = c.cl.length := by omega
                obtain ⟨b0, b1, b2, b3, b4, b5⟩ := box6 (h0.trans h3)
                go_wp2_with fail
                refine (conf_RegionN' c c.ts.length i pw 0 rfl R0.out (H.out.ext (hx.trans (h0.trans h3)))).mono ?_
                rintro e w7 ⟨rfl, h2⟩
                replace h3 := h3.trans h2
                clear h2
                clear b0 b1 b2 b3 b4 b5
                obtain ⟨b0, b1, b2, b3, b4, b5⟩ := box6 (h0.trans h3)
                go_wp2_with fail
                refine (conf_Check' c 0 H0.out (H.out.ext (hx.trans (h0.trans h3)))).mono ?_
                rintro e w8 ⟨rfl, h2⟩
                replace h3 := h3.trans h2
                clear h2
                clear b0 b1 b2 b3 b4 b5
                obtain ⟨b0, b1, b2, b3, b4, b5⟩ := box6 (h0.trans h3)
                go_wp2_with fail
                refine (law06_awake _).mono ?_
                rintro e wz ⟨rfl, h2⟩
                go_wp2_with fail
                go_ret
                exact ⟨rfl, hx.trans (h0.trans (h3.trans h2))⟩
    · have K2 := Lib.hid (kcheck_two hk0)
      clear hk0
      go_enter Try.func11, Try.ntmps11
      go_wp2_with fail
      refine (ref06_Small c true HS.out (H.out.ext (hx.trans (h0.trans h3)))).mono ?_
      rintro e w1 ⟨rfl, h2⟩
      replace h3 := h3.trans h2
      clear h2
      clear b0 b1 b2 b3 b4 b5
      obtain ⟨b0, b1, b2, b3, b4, b5⟩ := box6 (h0.trans h3)
      go_wp2_with fail
      refine (conf_Check' c 2 K2.out (H.out.ext (hx.trans (h0.trans h3)))).mono ?_
      rintro e w2 ⟨rfl, h2⟩
      replace h3 := h3.trans h2
      clear h2
      clear b0 b1 b2 b3 b4 b5
      obtain ⟨b0, b1, b2, b3, b4, b5⟩ := box6 (h0.trans h3)
      go_wp2_with fail
      refine (law06_awake _).mono ?_
      rintro e wz ⟨rfl, h2⟩
      go_wp2_with fail
      go_ret
      exact ⟨rfl, hx.trans (h0.trans (h3.trans h2))⟩
  · have HS := Lib.hid (show decide (c.cl.length ≤ 50 ∧ c.ts.length ≤ 50) = false by simpa using hs)
    clear hs
    go_enter Try.func11, Try.ntmps11
    go_wp2_with fail
    refine (ref06_Small c false HS.out (H.out.ext (hx.trans (h0.trans h3)))).mono ?_
    rintro e w1 ⟨rfl, h2⟩
    replace h3 := h3.trans h2
    clear h2
    clear b0 b1 b2 b3 b4 b5
    obtain ⟨b0, b1, b2, b3, b4, b5⟩ := box6 (h0.trans h3)
    go_wp2_with fail
    refine (law06_awake _).mono ?_
    rintro e wz ⟨rfl, h2⟩
    go_wp2_with fail
    go_ret
    exact ⟨rfl, hx.trans (h0.trans (h3.trans h2))⟩

end Go.Proofs.Ytmjgmgaklgcdnaa
