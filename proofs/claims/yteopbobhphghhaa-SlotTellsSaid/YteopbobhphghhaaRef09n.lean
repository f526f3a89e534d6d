/-
  commonageref09.New: the document's plan.
-/
import Derived.Test.YteopbobhphghhaaRef09
import Derived.Test.YteopbobhphghhaaRef09P
import Derived.BigQuiet
import Derived.Deep.QuietTactic
import Derived.Deep.RegionHeld3
import Derived.Deep.AppendLies
namespace Go.Proofs.Yteopbobhphghhaa
open Go.RowKit

theorem info_slot : (Try.prog.info? 109).map (fun i => (i.zero, i.size, i.bytes)) = some (some (.agg #[.int .i64 0, .int .i64 0, .int .i64 0, .int .i64 0]), 4, 32) := by kernel_rfl
theorem info_int9 : (Try.prog.info? 3).map (fun i => (i.zero, i.size, i.bytes)) = some (some (.int .i64 0), 1, 8) := by kernel_rfl
theorem own_slice {w : World} {base e s n : Nat} {v : Value} {xs : List Value} (h : w.ownsRow base e s v n xs) : ∃ a cap, v = .slice a n cap := by
  rcases h.2 with ⟨rfl, rfl⟩ | ⟨g, cap, cur, rfl, _⟩
  · exact ⟨none, 0, rfl⟩
  · exact ⟨_, cap, rfl⟩
theorem own_at {g n cap H : Nat} {v : Value} (h : v.ownBlock = some g ∨ g = H) : ∀ g', (Value.slice (some ⟨g, 0, none⟩) n cap).ownBlock = some g' → v.ownBlock = some g' ∨ H ≤ g' := by
  intro g' e
  have : g = g' := by simpa [Value.ownBlock] using e
  subst this
  rcases h with h | h
  · exact .inl h
  · exact .inr (by omega)

theorem newsb9 {W : World} {b : Nat} (v : Value) (t : TypeId) (hb : W.heap.size = b) : ∀ j u, [v][j]? = some u → (W.alloc (.cells #[v] t)).cell? ((⟨b, 0, none⟩ : Addr).add j) = some u := by
  subst hb; exact news1 W v t

theorem DPlan.far {w : World} {lb fb mb x o : Nat} {ca : Option Addr} {c : Conf} {t : Nat} {u : Value} (h : DPlan w lb fb mb ca c t) (h1 : lb ≠ x) (h2 : fb ≠ x) (h3 : mb ≠ x) (h4 : ∀ b o, ca = some ⟨b, o, none⟩ → b ≠ x) : DPlan (w.setCell ⟨x, o, none⟩ u) lb fb mb ca c t := by
  have fa : ∀ {a : Option Addr} {xs : List Int}, (∀ b o, a = some ⟨b, o, none⟩ → b ≠ x) → At .i64 w a xs → At .i64 (w.setCell ⟨x, o, none⟩ u) a xs := fun hne ha i hi => by
    obtain ⟨b', o', e, hc⟩ := ha i hi
    exact ⟨b', o', e, by rw [cell_far _ _ _ _ (show x ≠ b' from Ne.symm (hne b' o' e))]; exact hc⟩
  exact ⟨h.ok, h.ti, fun s hs j v hv => by rw [cell_far _ _ _ _ (show x ≠ lb from Ne.symm h1)]; exact h.l s hs j v hv, fa (fun b o e => by cases e; exact h2) h.f, fa (fun b o e => by cases e; exact h3) h.m, fa h4 h.k⟩

/-- What New hands back. -/
def DocNew (c : Conf) (t : Nat) (w : World) (e : Ending) (w' : World) : Prop :=
  ∃ lb lc fb fc mb mc ca cc, e = .returned (.tuple #[dpv lb lc fb fc mb mc ca cc c t, .int .i64 0]) ∧ DPlan w' lb fb mb ca c t ∧ Ext w w'

set_option maxHeartbeats 2000000 in
theorem ref09_New_no {ca ta : Option Addr} {cc tc : Nat} (c : Conf) (t : Int) {w : World} (hn : ¬ there c t 0) (h : CfgAt w ca ta cc tc c) :
    Calls Try.prog 25 #[.agg #[.slice ca c.cl.length cc, .int .i64 c.page, .slice ta c.ts.length tc, .int .i64 c.wk, .int .i64 c.gr, .int .i64 c.gens], .int .i64 t] w fun e w' => e = .returned (.tuple #[.agg #[.slice none 0 0, .slice none 0 0, .slice none 0 0, .int .i64 0, .slice none 0 0], .int .i64 2]) ∧ Ext w w' := by
  have h1 := (Ext.refl (w.alloc (.cells #[.slice ca c.cl.length cc, .int .i64 c.page, .slice ta c.ts.length tc, .int .i64 c.wk, .int .i64 c.gr, .int .i64 c.gens] 25))).alloc (.cells #[.slice none 0 0, .slice none 0 0, .slice none 0 0, .int .i64 0, .slice none 0 0] 67)
  have hx := (Ext.refl w).alloc (.cells #[.slice ca c.cl.length cc, .int .i64 c.page, .slice ta c.ts.length tc, .int .i64 c.wk, .int .i64 c.gr, .int .i64 c.gens] 25)
  obtain ⟨z, hz⟩ : ∃ z, w.heap.size = z := ⟨_, rfl⟩
  have BR : Hid (∀ i u, #[Value.slice none 0 0, .slice none 0 0, .slice none 0 0, .int .i64 0, .slice none 0 0][i]? = some u → ((w.alloc (.cells #[.slice ca c.cl.length cc, .int .i64 c.page, .slice ta c.ts.length tc, .int .i64 c.wk, .int .i64 c.gr, .int .i64 c.gens] 25)).alloc (.cells #[.slice none 0 0, .slice none 0 0, .slice none 0 0, .int .i64 0, .slice none 0 0] 67)).cell? ⟨z + 1, i, none⟩ = some u) := Lib.hid fun i u hu => by
    have := cell_newN (w.alloc (.cells #[.slice ca c.cl.length cc, .int .i64 c.page, .slice ta c.ts.length tc, .int .i64 c.wk, .int .i64 c.gr, .int .i64 c.gens] 25)) #[Value.slice none 0 0, .slice none 0 0, .slice none 0 0, .int .i64 0, .slice none 0 0] 67 i
    rw [hu] at this
    rw [show z + 1 = (w.alloc (.cells #[.slice ca c.cl.length cc, .int .i64 c.page, .slice ta c.ts.length tc, .int .i64 c.wk, .int .i64 c.gr, .int .i64 c.gens] 25)).heap.size by simp [hz]]
    exact this
  have FR : Hid (∀ i, ((w.alloc (.cells #[.slice ca c.cl.length cc, .int .i64 c.page, .slice ta c.ts.length tc, .int .i64 c.wk, .int .i64 c.gr, .int .i64 c.gens] 25)).alloc (.cells #[.slice none 0 0, .slice none 0 0, .slice none 0 0, .int .i64 0, .slice none 0 0] 67)).frozen? ⟨z + 1, i, none⟩ = false) := Lib.hid fun i => by
    rw [show z + 1 = (w.alloc (.cells #[.slice ca c.cl.length cc, .int .i64 c.page, .slice ta c.ts.length tc, .int .i64 c.wk, .int .i64 c.gr, .int .i64 c.gens] 25)).heap.size by simp [hz]]
    exact World.frozen?_alloc_at _ _ _ _ rfl
  have R := Lib.hid (kregion_no hn)
  have H := Lib.hid h
  clear h hn
  go_enter Try.func25, Try.ntmps25
  go_wp2_with fail
  refine (ref06_Region c t 0 2 R.out (H.out.ext (hx.trans h1))).mono ?_
  rintro e w1 ⟨rfl, h2⟩
  have X := hx.trans (h1.trans h2)
  have r0 := h2.cell (BR.out 0 _ rfl); have r1 := h2.cell (BR.out 1 _ rfl); have r2 := h2.cell (BR.out 2 _ rfl); have r3 := h2.cell (BR.out 3 _ rfl); have r4 := h2.cell (BR.out 4 _ rfl)
  have rf : ∀ o, w1.frozen? ⟨z + 1, o, none⟩ = false := fun o => by rw [h2.frozen (p := ⟨z + 1, o, none⟩) (by simp [hz])]; exact FR.out o
  have f0 := rf 0; have f1 := rf 1; have f2 := rf 2; have f3 := rf 3; have f4 := rf 4
  clear rf
  go_wp2_with fail
  have s0 := set_same (w := w1) (u := .slice none 0 0) r0
  have s1 := set_same (w := (w1.setCell ⟨z + 1, 0, none⟩ (.slice none 0 0))) (u := .slice none 0 0) (set_oth (by decide) r1)
  have s2 := set_same (w := ((w1.setCell ⟨z + 1, 0, none⟩ (.slice none 0 0)).setCell ⟨z + 1, 1, none⟩ (.slice none 0 0))) (u := .slice none 0 0) (set_oth (by decide) (set_oth (by decide) r2))
  have s3 := set_same (w := (((w1.setCell ⟨z + 1, 0, none⟩ (.slice none 0 0)).setCell ⟨z + 1, 1, none⟩ (.slice none 0 0)).setCell ⟨z + 1, 2, none⟩ (.slice none 0 0))) (u := .int .i64 0) (set_oth (by decide) (set_oth (by decide) (set_oth (by decide) r3)))
  have s4 := set_same (w := ((((w1.setCell ⟨z + 1, 0, none⟩ (.slice none 0 0)).setCell ⟨z + 1, 1, none⟩ (.slice none 0 0)).setCell ⟨z + 1, 2, none⟩ (.slice none 0 0)).setCell ⟨z + 1, 3, none⟩ (.int .i64 0))) (u := .slice none 0 0) (set_oth (by decide) (set_oth (by decide) (set_oth (by decide) (set_oth (by decide) r4))))
  have e1 : w.heap.size ≤ z + 1 := by omega
  exact bodyPost_ret (v := .tuple #[.agg #[.slice none 0 0, .slice none 0 0, .slice none 0 0, .int .i64 0, .slice none 0 0], .int .i64 2]) (by simp [results, Try.results25, go_sem, s0, s1, s2, s3, s4]) rfl ⟨rfl, ((((X.setCell (p := ⟨z + 1, 0, none⟩) e1 _).setCell (p := ⟨z + 1, 1, none⟩) e1 _).setCell (p := ⟨z + 1, 2, none⟩) e1 _).setCell (p := ⟨z + 1, 3, none⟩) e1 _).setCell (p := ⟨z + 1, 4, none⟩) e1 _⟩

set_option maxRecDepth 100000 in
set_option maxHeartbeats 32000000 in
theorem ref09_New {ca ta : Option Addr} {cc tc : Nat} (c : Conf) (i : Nat) {w : World} (hk0 : kcheck c = 0) (hi : i < c.ts.length) (h : CfgAt w ca ta cc tc c) :
    Calls Try.prog 25 #[.agg #[.slice ca c.cl.length cc, .int .i64 c.page, .slice ta c.ts.length tc, .int .i64 c.wk, .int .i64 c.gr, .int .i64 c.gens], .int .i64 i] w (DocNew c i w) := by
  obtain ⟨i0, hi0, hz0, hz1, hz2⟩ := info_parts info_int9
  obtain ⟨j0, hj0, hy0, hy1, hy2⟩ := info_parts info_slot
  have hx := (Ext.refl w).alloc (.cells #[.slice ca c.cl.length cc, .int .i64 c.page, .slice ta c.ts.length tc, .int .i64 c.wk, .int .i64 c.gr, .int .i64 c.gens] 25)
  obtain ⟨z, hz⟩ : ∃ z, w.heap.size = z := ⟨_, rfl⟩
  have BR : Hid (∀ i u, #[Value.slice none 0 0, .slice none 0 0, .slice none 0 0, .int .i64 0, .slice none 0 0][i]? = some u → ((w.alloc (.cells #[.slice ca c.cl.length cc, .int .i64 c.page, .slice ta c.ts.length tc, .int .i64 c.wk, .int .i64 c.gr, .int .i64 c.gens] 25)).alloc (.cells #[.slice none 0 0, .slice none 0 0, .slice none 0 0, .int .i64 0, .slice none 0 0] 67)).cell? ⟨z + 1, i, none⟩ = some u) := Lib.hid fun i u hu => by
    have := cell_newN (w.alloc (.cells #[.slice ca c.cl.length cc, .int .i64 c.page, .slice ta c.ts.length tc, .int .i64 c.wk, .int .i64 c.gr, .int .i64 c.gens] 25)) #[Value.slice none 0 0, .slice none 0 0, .slice none 0 0, .int .i64 0, .slice none 0 0] 67 i
    rw [hu] at this
    rw [show z + 1 = (w.alloc (.cells #[.slice ca c.cl.length cc, .int .i64 c.page, .slice ta c.ts.length tc, .int .i64 c.wk, .int .i64 c.gr, .int .i64 c.gens] 25)).heap.size by simp [hz]]
    exact this
  have FR : Hid (∀ i, ((w.alloc (.cells #[.slice ca c.cl.length cc, .int .i64 c.page, .slice ta c.ts.length tc, .int .i64 c.wk, .int .i64 c.gr, .int .i64 c.gens] 25)).alloc (.cells #[.slice none 0 0, .slice none 0 0, .slice none 0 0, .int .i64 0, .slice none 0 0] 67)).frozen? ⟨z + 1, i, none⟩ = false) := Lib.hid fun i => by
    rw [show z + 1 = (w.alloc (.cells #[.slice ca c.cl.length cc, .int .i64 c.page, .slice ta c.ts.length tc, .int .i64 c.wk, .int .i64 c.gr, .int .i64 c.gens] 25)).heap.size by simp [hz]]
    exact World.frozen?_alloc_at _ _ _ _ rfl
  have ho := kcheck_ok hk0
  have K0 := Lib.hid hk0
  have HO := Lib.hid ho
  have c8 := ho.cl.most
  have c1 := ho.cl.pos
  have R := Lib.hid (kregion_yes (there_mk (i := i) (j := 0) hk0 hi c1))
  obtain ⟨wo, hwo⟩ : ∃ p, wordsOf c i = p := ⟨_, rfl⟩
  rw [hwo] at R
  have HWO := Lib.hid hwo
  have H := Lib.hid h
  obtain ⟨cb, co, rfl, hc⟩ := h.cl.pos c1
  have HC := Lib.hid hc
  have h1 := (Ext.refl (w.alloc (.cells #[.slice (some ⟨cb, co, none⟩) c.cl.length cc, .int .i64 c.page, .slice ta c.ts.length tc, .int .i64 c.wk, .int .i64 c.gr, .int .i64 c.gens] 25))).alloc (.cells #[.slice none 0 0, .slice none 0 0, .slice none 0 0, .int .i64 0, .slice none 0 0] 67)
  clear h hk0 ho hwo hc
  go_enter Try.func25, Try.ntmps25
  go_wp2_with fail
  refine (ref06_Region c i wo 0 R.out (H.out.ext (hx.trans h1))).mono ?_
  rintro e w1 ⟨rfl, h2⟩
  have X1 := Lib.hid h2
  replace h1 := h1.trans h2
  clear h2
  obtain ⟨b0, b1, b2, b3, b4, b5⟩ := box6 h1
  rw [hz] at b0 b1 b2 b3 b4 b5
  have hlt1 : z < w1.heap.size := cell_lt b0
  go_wp2_with fail
  have PR0 : Hid (DocR ((w.alloc (.cells #[.slice (some ⟨cb, co, none⟩) c.cl.length cc, .int .i64 c.page, .slice ta c.ts.length tc, .int .i64 c.wk, .int .i64 c.gr, .int .i64 c.gens] 25)).alloc (.cells #[.slice none 0 0, .slice none 0 0, .slice none 0 0, .int .i64 0, .slice none 0 0] 67)) c i w1.heap.size 0 0 0 (some ⟨cb, co, none⟩) cc wo (.slice none 0 0) (.slice none 0 0) (.slice none 0 0) (w1.alloc (.cells #[.slice none 0 0, .slice none 0 0, .slice none 0 0, .int .i64 wo, .slice (some ⟨cb, co, none⟩) c.cl.length cc] 67))) :=
    Lib.hid (DocR.start (cell_newN _ _ _ 0) (cell_newN _ _ _ 1) (cell_newN _ _ _ 2) (cell_newN _ _ _ 3) (cell_newN _ _ _ 4) (fun o => World.frozen?_alloc_at _ _ _ _ rfl) X1.out.size (X1.out.alloc _))
  clear b0 b1 b2 b3 b4 b5 hlt1 h1
  generalize w1.heap.size = b at *
  go_loopw [9] (fun kv wr => ∃ (k n p : Nat) (lv fv mv : Value), k ≤ c.cl.length ∧ kv = .int .i64 k ∧ Hid ((n : Int) = sS c i k) ∧ Hid ((p : Int) = sG c i k) ∧ Hid (DocR ((w.alloc (.cells #[.slice (some ⟨cb, co, none⟩) c.cl.length cc, .int .i64 c.page, .slice ta c.ts.length tc, .int .i64 c.wk, .int .i64 c.gr, .int .i64 c.gens] 25)).alloc (.cells #[.slice none 0 0, .slice none 0 0, .slice none 0 0, .int .i64 0, .slice none 0 0] 67)) c i b n p p (some ⟨cb, co, none⟩) cc wo lv fv mv wr)) (fun kv _ => c.cl.length - (intOf kv).toNat)
  case atStart => exact ⟨0, 0, 0, _, _, _, Nat.zero_le _, rfl, rfl, rfl, PR0⟩
  case round =>
    clear PR0 X1
    obtain ⟨k, n, p, lv, fv, mv, hk, rfl, EN, EP, PR⟩ := hrel
    obtain ⟨b0, b1, b2, b3, b4, b5⟩ := box6 (((Ext.refl _).alloc _).trans PR.out.ext)
    rw [hz] at b0 b1 b2 b3 b4 b5
    by_cases hlt : k < c.cl.length
    · have KS := Lib.hid (kslots_yes (there_mk K0.out hi hlt))
      have bd := HO.out.bounds hi hlt
      have u1 := bd.c2; have u2 := bd.cpage; have u3 := bd.p64; have u4 := bd.c64; have u5 := bd.s1; have u6 := bd.s2048; have u7 := bd.pg1; have u8 := bd.pg2048; have u9 := bd.per1; have u10 := bd.per32
      have HPE := Lib.hid (show perOf c k = c.page / nth c.cl k from rfl)
      have SS := Lib.hid (show sS c i (k + 1) = sS c i k + slotsOf c i k from rfl)
      have SG := Lib.hid (show sG c i (k + 1) = sG c i k + pagesOf c i k from rfl)
      clear bd
      go_wp2_with fail
      clear b0 b1 b2 b3 b4 b5
      refine (ref06_Slots c i k _ 0 KS.out (H.out.ext (hx.trans (((Ext.refl _).alloc _).trans PR.out.ext)))).mono ?_
      rintro e w2 ⟨rfl, h2⟩
      have PR2 := Lib.hid (PR.out.go h2)
      clear h2 PR
      go_wp2_with fail
      go_loopw [10] (fun lfv wq => ∃ (d n2 p2 : Nat) (lf : Int) (lv fv mv : Value), (d : Int) ≤ pagesOf c i k ∧ lfv = .int .i64 lf ∧ Hid (lf = leftM (slotsOf c i k) (perOf c k) d) ∧ Hid ((n2 : Int) = sS c i k + slotsOf c i k - lf) ∧ Hid ((p2 : Int) = sG c i k + d) ∧ Hid (DocR ((w.alloc (.cells #[.slice (some ⟨cb, co, none⟩) c.cl.length cc, .int .i64 c.page, .slice ta c.ts.length tc, .int .i64 c.wk, .int .i64 c.gr, .int .i64 c.gens] 25)).alloc (.cells #[.slice none 0 0, .slice none 0 0, .slice none 0 0, .int .i64 0, .slice none 0 0] 67)) c i b n2 p2 p2 (some ⟨cb, co, none⟩) cc wo lv fv mv wq)) (fun lfv _ => (intOf lfv).toNat)
      case atStart => exact ⟨0, n, p, slotsOf c i k, lv, fv, mv, by omega, rfl, (leftM_zero (by omega)).symm, by have := EN.out; unfold Hid; omega, by have := EP.out; unfold Hid; omega, PR2⟩
      case round =>
        clear PR2
        obtain ⟨d, n2, p2, lf, lv, fv, mv, hd, rfl, EL, EN2, EP2, PR⟩ := hrel
        obtain ⟨b0, b1, b2, b3, b4, b5⟩ := box6 (((Ext.refl _).alloc _).trans PR.out.ext)
        rw [hz] at b0 b1 b2 b3 b4 b5
        by_cases hlf : 0 < lf
        · have hdl : (d : Int) * perOf c k < slotsOf c i k := by
            have := EL.out
            unfold leftM at this
            split at this
            · assumption
            · omega
          have hlf2 : lf = slotsOf c i k - d * perOf c k := by
            have := EL.out
            unfold leftM at this
            rw [if_pos hdl] at this
            exact this
          obtain ⟨M, PF⟩ := pageF HO.out hi hlt hdl
          have M1 := PF.pos; have M2 := PF.per; have M3 := PF.lef
          have PFH := Lib.hid PF
          have gl := HO.out.sG_le hi (Nat.le_refl _)
          have gm := sG_mono HO.out hi (a := k + 1) (b := c.cl.length) hlt (Nat.le_refl _)
          have p2b : p2 ≤ 16384 := by have := EP2.out; have := PF.dP; have := SG.out; omega
          have sl := HO.out.sS_le hi (Nat.le_refl _)
          have n2b : n2 + M ≤ 16384 := by
            have := sS_mono HO.out hi (a := k + 1) (b := c.cl.length) hlt (Nat.le_refl _)
            have := EN2.out; have := SS.out; omega
          have F1 : Hid (firsts c i (p2 + 1) = firsts c i p2 ++ [(n2 : Int)]) := Lib.hid (by
            rw [firsts_succ, PF.kp HO.out hi EP2.out, EP2.out, PF.first]
            have := EN2.out
            rw [show sS c i k + (d : Int) * perOf c k = n2 by omega])
          have F2 : Hid (manys c i (p2 + 1) = manys c i p2 ++ [(M : Int)]) := Lib.hid (by
            rw [manys_succ, PF.kp HO.out hi EP2.out, EP2.out, PF.many])
          have EN3 : Hid ((n2 : Int) = sS c i k + d * perOf c k) := Lib.hid (by have := EN2.out; omega)
          have NX : Hid (leftM (slotsOf c i k) (perOf c k) (d + 1) = lf - M) := Lib.hid (by rw [PF.next]; omega)
          have ONE : Hid ((M : Int) = perOf c k ∨ (M : Int) = lf) := Lib.hid (by have := PF.one; omega)
          have lfb : lf ≤ 2048 := by
            have h0 : 0 ≤ (d : Int) * perOf c k := Int.mul_nonneg (Int.natCast_nonneg _) (by omega)
            omega
          have ML : (M : Int) ≤ lf := by omega
          have HLF := Lib.hid hlf2
          have DP := Lib.hid PF.dP
          obtain ⟨fa, fcap, rfl⟩ := own_slice PR.out.of
          obtain ⟨la, lcap, rfl⟩ := own_slice PR.out.ol
          have q0 := PR.out.c0
          have q1 := PR.out.c1
          have bl : b < wr.heap.size := cell_lt q0
          clear PF hdl hlf2 gl gm sl EL EN2 M3
          go_wp2_with (at_builtin; refine wpList_append_lies _ rfl (.tmp 48) (.tmp 52) 22 rfl (b + 1) 3 i0 (.int .i64 0) 1 8 Try.underlying22 hi0 hz0 hz1 hz2 rfl (by decide) (.slice fa p2 fcap) p2 (ncs .i64 (firsts c i p2)) rfl (own_ext PR.out.of ((Ext.refl _).alloc _)) ⟨wr.heap.size, 0, none⟩ 1 1 [.int .i64 n2] rfl rfl (news1 _ _ _) (one1 rfl) (by decide) (by unfold maxLen; omega) (by omega) (by simp; omega) (wr.heap.size + 1) (by simp) ?_; intro gg cap w4 hown hgrow hat hlt4; obtain ⟨g0, g1, g2, g3, g4, gf, ge⟩ := PR.out.grown PR.out.of ((Ext.refl _).alloc _) hgrow; have gf1 := gf 1; have PR4 := Lib.hid (PR.out.pushF ((Ext.refl _).alloc _) hgrow (by rw [F1.out, ← ncs_snoc]; exact hown) (by rw [World.size_alloc]; exact own_at hat)); clear hown hgrow hat hlt4 gf)
          clear b0 b1 b2 b3 b4 b5 q0 q1 bl g0 g1 g2 g3 g4 gf1 ge PR
          go_loopw [10, 13, 14] (fun lfv mv' av wq => ∃ (m n3 : Nat) (at_ L : Int) (lv : Value), m ≤ M ∧ lfv = .int .i64 L ∧ Hid (L = lf - m) ∧ mv' = .int .i64 m ∧ av = .int .i64 at_ ∧ Hid (at_ = m * nth c.cl k) ∧ Hid (n3 = n2 + m) ∧ Hid (DocR ((w.alloc (.cells #[.slice (some ⟨cb, co, none⟩) c.cl.length cc, .int .i64 c.page, .slice ta c.ts.length tc, .int .i64 c.wk, .int .i64 c.gr, .int .i64 c.gens] 25)).alloc (.cells #[.slice none 0 0, .slice none 0 0, .slice none 0 0, .int .i64 0, .slice none 0 0] 67)) c i b n3 (p2 + 1) p2 (some ⟨cb, co, none⟩) cc wo lv (.slice (some ⟨gg, 0, none⟩) (p2 + 1) cap) mv wq)) (fun _ mv' _ _ => M - (intOf mv').toNat)
          case atStart => exact ⟨0, n2, 0, lf, _, Nat.zero_le _, rfl, by unfold Hid; simp, rfl, rfl, by unfold Hid; simp, rfl, PR4⟩
          case round =>
            clear PR4
            obtain ⟨m, n3, at_, L, lv, hm, rfl, ELF, rfl, rfl, EA, EN4, PR⟩ := hrel
            have L0 : 0 ≤ L ∧ L ≤ 2048 := by have := ELF.out; omega
            obtain ⟨L0, L1⟩ := L0
            obtain ⟨b0, b1, b2, b3, b4, b5⟩ := box6 (((Ext.refl _).alloc _).trans PR.out.ext)
            rw [hz] at b0 b1 b2 b3 b4 b5
            have zk := (hx.trans (((Ext.refl _).alloc _).trans PR.out.ext)).cell (HC.out k hlt)
            have at0 : 0 ≤ at_ ∧ at_ ≤ 2048 := by
              rw [EA.out]
              have := mul_bd (a := (m : Int)) (b := nth c.cl k) (A := 32) (B := 64) (by omega) (by omega) (by omega) u4
              omega
            have hk0 : (0 : Int) ≤ (k : Int) := Int.natCast_nonneg _
            have hk1 : (k : Int) < (c.cl.length : Int) := by omega
            obtain ⟨at0, at1⟩ := at0
            have ww : IntKind.i64.wrap (at_ + nth c.cl k) = at_ + nth c.cl k := IntWalk.i64_in _ (by omega)
            by_cases hmM : m < M
            · have L2 : 1 ≤ L := by have := ELF.out; omega
              have t1 : decide (0 < L) = true := by simp; omega
              have t2 : decide (at_ + nth c.cl k ≤ c.page) = true := by
                have := at_in (m := m) u1 HPE.out (by omega); rw [← EA.out] at this; simpa using this
              go_wp2_with fail
              refine wp_region_quiet_lit (by kernel_rfl) (by kernel_rfl) ?_
              repeat (any_goals (first | go_big_quiet_step (fail) | quiet_step (fail) | simp only [t1]))
              all_goals (refine wpQuiet_nil ?_; intro _ hw'; obtain ⟨nq, hw''⟩ := hw'; subst hw'')
              go_wp2_with fail
              have PR5 := Lib.hid (PR.out.go ((Ext.refl _).drewN nq))
              clear b0 b1 b2 b3 b4 b5 zk t1 t2 ww PR
              obtain ⟨b0, b1, b2, b3, b4, b5⟩ := box6 (((Ext.refl _).alloc _).trans PR5.out.ext)
              rw [hz] at b0 b1 b2 b3 b4 b5
              have zk := (hx.trans (((Ext.refl _).alloc _).trans PR5.out.ext)).cell (HC.out k hlt)
              generalize wr.drewN nq = w5 at *
              obtain ⟨la3, lcap3, rfl⟩ := own_slice PR5.out.ol
              have q0 := PR5.out.c0
              have bl : b < w5.heap.size := cell_lt q0
              have zl : z < w5.heap.size := cell_lt b0
              have cl : cb < w5.heap.size := cell_lt zk
              have zb : b ≠ z := by have := PR5.out.lo; simp at this; omega
              have cbb : b ≠ cb := by have := PR5.out.lo; have := HC.out k hlt; have := cell_lt this; simp at *; omega
              have n0 : ¬ b = w5.heap.size := by omega
              obtain ⟨PP, hPP⟩ : ∃ x, (p2 : Int) * c.page = x := ⟨_, rfl⟩
              have wb := mul_bd (a := (p2 : Int)) (b := c.page) (A := 16384) (B := 64) (by omega) (by omega) (by omega) u3
              rw [hPP] at wb
              obtain ⟨wb0, wb1⟩ := wb
              have k1 : IntKind.i64.wrap ((p2 : Int) * c.page) = PP := by rw [hPP]; exact IntWalk.i64_in _ (by omega)
              have k2 : IntKind.i64.wrap (PP + at_) = PP + at_ := IntWalk.i64_in _ (by omega)
              have SLC : Hid (slcs c i (n3 + 1) = slcs c i n3 ++ [.int .i64 k, .int .i64 (nth c.cl k), .int .i64 (PP + at_), .int .i64 p2]) := Lib.hid (by
                show slcs c i n3 ++ slc c i (n3 : Int) = _
                rw [PFH.out.slot HO.out hi hmM (n := n3) (by rw [EN4.out]; have := EN3.out; omega), ← EP2.out, hPP, EA.out])
              have n3b : n3 + 1 ≤ 16384 := by have := EN4.out; omega
              have NB1 := Lib.hid (show ∀ j u, [Value.int .i64 k, .int .i64 (nth c.cl k), .int .i64 (PP + at_), .int .i64 p2][j]? = some u → (w5.drew.alloc (.cells #[.int .i64 k, .int .i64 (nth c.cl k), .int .i64 (PP + at_), .int .i64 p2] 109)).cell? ((⟨w5.heap.size, 0, none⟩ : Addr).add j) = some u from fun j u hu => World.news_of_block (heap_alloc_new w5.drew _) j u hu)
              have NB2 := Lib.hid (show ∀ j u, [Value.int .i64 k, .int .i64 (nth c.cl k), .int .i64 (PP + at_), .int .i64 p2][j]? = some u → ((w5.alloc (.cells #[.int .i64 k, .int .i64 (nth c.cl k), .int .i64 (PP + at_), .int .i64 p2] 109)).drew).cell? ((⟨w5.heap.size, 0, none⟩ : Addr).add j) = some u from fun j u hu => (Ext.refl _).drew.cell (World.news_of_block (heap_alloc_new w5 _) j u hu))
              have one4 : ∀ u ∈ [Value.int .i64 k, .int .i64 (nth c.cl k), .int .i64 (PP + at_), .int .i64 p2], u.oneCell' = true := by
                intro u h
                simp only [List.mem_cons, List.not_mem_nil, or_false] at h
                rcases h with rfl | rfl | rfl | rfl <;> rfl
              have ONE4 := Lib.hid one4
              clear hPP one4
              refine wp_region_noPanic ?_
              refine wp_region_held_drew (S := (fun w' => w'.cell? ⟨z, 0, none⟩ = some (.slice (some ⟨cb, co, none⟩) c.cl.length cc) ∧ w'.cell? ⟨z, 1, none⟩ = some (.int .i64 c.page) ∧ w'.cell? ⟨cb, co + k, none⟩ = some (.int .i64 (nth c.cl k)))) (by kernel_rfl) ?_ (fun hHeld => ?_)
              focus ((try dsimp only); first | with_reducible exact ⟨e0, e1, ez⟩ | with_reducible exact ⟨(cell_far _ _ _ _ zb).trans e0, (cell_far _ _ _ _ zb).trans e1, (cell_far _ _ _ _ cbb).trans ez⟩ | go_keep)
              refine wpAnyH_take (i := 0) (v := ?_) rfl (by kernel_rfl) (by kernel_rfl) (by kernel_rfl) (fun _ _ _ h => h) (Or.inl ⟨by rfl, ?_⟩) (by assumption) ?_
              rotate_left
              focus (intro w hSw; (try dsimp only at hSw); go_simp; try with_reducible rfl)
              try simp only [Act.put, List.setIfInBounds_toArray, List.set_cons_zero, List.set_cons_succ]
              refine wpAnyH_take (i := 2) (v := ?_) rfl (by kernel_rfl) (by kernel_rfl) (by kernel_rfl) (fun _ _ _ h => h) (Or.inl ⟨by rfl, ?_⟩) (by assumption) ?_
              rotate_left
              focus (intro w hSw; (try dsimp only at hSw); go_simp; try with_reducible rfl)
              try simp only [Act.put, List.setIfInBounds_toArray, List.set_cons_zero, List.set_cons_succ]
              refine wpAnyH_take (i := 3) (v := ?_) rfl (by kernel_rfl) (by kernel_rfl) (by kernel_rfl) (fun _ _ _ h => h) (Or.inl ⟨by rfl, ?_⟩) (by assumption) ?_
              rotate_left
              focus (intro w hSw; (try dsimp only at hSw); go_simp; try with_reducible rfl)
              try simp only [Act.put, List.setIfInBounds_toArray, List.set_cons_zero, List.set_cons_succ]
              refine wpAnyH_take (i := 4) (v := ?_) rfl (by kernel_rfl) (by kernel_rfl) (by kernel_rfl) (fun _ _ _ h => h) (Or.inl ⟨by rfl, ?_⟩) (by assumption) ?_
              rotate_left
              focus (intro w hSw; (try dsimp only at hSw); go_simp; try with_reducible rfl)
              try simp only [Act.put, List.setIfInBounds_toArray, List.set_cons_zero, List.set_cons_succ]
              refine wpAnyH_take (i := 5) (v := ?_) rfl (by kernel_rfl) (by kernel_rfl) (by kernel_rfl) (fun _ _ _ h => h) (Or.inl ⟨by rfl, ?_⟩) (by assumption) ?_
              rotate_left
              focus (intro w hSw; (try dsimp only at hSw); go_simp; try with_reducible rfl)
              try simp only [Act.put, List.setIfInBounds_toArray, List.set_cons_zero, List.set_cons_succ]
              refine wpAnyH_take (i := 6) (v := ?_) rfl (by kernel_rfl) (by kernel_rfl) (by kernel_rfl) (fun _ _ _ h => h) (Or.inl ⟨by rfl, ?_⟩) (by assumption) ?_
              rotate_left
              focus (intro w hSw; (try dsimp only at hSw); go_simp; try with_reducible rfl)
              try simp only [Act.put, List.setIfInBounds_toArray, List.set_cons_zero, List.set_cons_succ]
              refine wpAnyH_take (i := 7) (v := ?_) rfl (by kernel_rfl) (by kernel_rfl) (by kernel_rfl) (fun _ _ _ h => h) (Or.inl ⟨by rfl, ?_⟩) (by assumption) ?_
              rotate_left
              focus (intro w hSw; (try dsimp only at hSw); go_simp; try with_reducible rfl)
              try simp only [Act.put, List.setIfInBounds_toArray, List.set_cons_zero, List.set_cons_succ]
              refine wpAnyH_take (i := 8) (v := ?_) rfl (by kernel_rfl) (by kernel_rfl) (by kernel_rfl) (fun _ _ _ h => h) (Or.inl ⟨by rfl, ?_⟩) (by assumption) ?_
              rotate_left
              focus (intro w hSw; (try dsimp only at hSw); go_simp; try with_reducible rfl)
              try simp only [Act.put, List.setIfInBounds_toArray, List.set_cons_zero, List.set_cons_succ]
              refine wpAnyH_take (i := 9) (v := ?_) rfl (by kernel_rfl) (by kernel_rfl) (by kernel_rfl) (fun _ _ _ h => h) (Or.inl ⟨by rfl, ?_⟩) (by assumption) ?_
              rotate_left
              focus (intro w hSw; (try dsimp only at hSw); go_simp; try with_reducible rfl)
              try simp only [Act.put, List.setIfInBounds_toArray, List.set_cons_zero, List.set_cons_succ]
              refine wpAnyH_take (i := 10) (v := ?_) rfl (by kernel_rfl) (by kernel_rfl) (by kernel_rfl) (fun _ _ _ h => h) (Or.inl ⟨by rfl, ?_⟩) (by assumption) ?_
              rotate_left
              focus (intro w hSw; (try dsimp only at hSw); go_simp; try with_reducible rfl)
              try simp only [Act.put, List.setIfInBounds_toArray, List.set_cons_zero, List.set_cons_succ]
              refine wpAnyH_take (i := 11) (v := ?_) rfl (by kernel_rfl) (by kernel_rfl) (by kernel_rfl) (fun _ _ _ h => h) (Or.inl ⟨by rfl, ?_⟩) (by assumption) ?_
              rotate_left
              focus (intro w hSw; (try dsimp only at hSw); go_simp; try with_reducible rfl)
              try simp only [Act.put, List.setIfInBounds_toArray, List.set_cons_zero, List.set_cons_succ]
              refine wpAnyH_take (i := 12) (v := ?_) rfl (by kernel_rfl) (by kernel_rfl) (by kernel_rfl) (fun _ _ _ h => h) (Or.inl ⟨by rfl, ?_⟩) (by assumption) ?_
              rotate_left
              focus (intro w hSw; (try dsimp only at hSw); go_simp; try with_reducible rfl)
              try simp only [Act.put, List.setIfInBounds_toArray, List.set_cons_zero, List.set_cons_succ]
              refine wpAnyH_take (i := 13) (v := ?_) rfl (by kernel_rfl) (by kernel_rfl) (by kernel_rfl) (fun _ _ _ h => h) (Or.inl ⟨by rfl, ?_⟩) (by assumption) ?_
              rotate_left
              focus (intro w hSw; (try dsimp only at hSw); go_simp; try with_reducible rfl)
              try simp only [Act.put, List.setIfInBounds_toArray, List.set_cons_zero, List.set_cons_succ]
              refine wpAnyH_take (i := 14) (v := ?_) rfl (by kernel_rfl) (by kernel_rfl) (by kernel_rfl) (fun _ _ _ h => h) (Or.inl ⟨by rfl, ?_⟩) (by assumption) ?_
              rotate_left
              focus (intro w hSw; (try dsimp only at hSw); go_simp; try with_reducible rfl)
              try simp only [Act.put, List.setIfInBounds_toArray, List.set_cons_zero, List.set_cons_succ]
              refine wpAnyH_take (i := 15) (v := ?_) rfl (by kernel_rfl) (by kernel_rfl) (by kernel_rfl) (fun _ _ _ h => h) (Or.inl ⟨by rfl, ?_⟩) (by assumption) ?_
              rotate_left
              focus (intro w hSw; (try dsimp only at hSw); go_simp; try with_reducible rfl)
              try simp only [Act.put, List.setIfInBounds_toArray, List.set_cons_zero, List.set_cons_succ]
              refine wpAnyH_ready (rs := [1, 16]) (by kernel_rfl) (by simp) ?_
              refine AllReadyH.cons (i := 1) rfl (fun K hK => ?_) (AllReadyH.cons (i := 16) rfl (fun K hK => ?_) AllReadyH.nil)
              go_simp
              refine hK.out _ _ ?_ (fun hHeld => ?_)
              focus ((try dsimp only); first | with_reducible exact ⟨e0, e1, ez⟩ | with_reducible exact ⟨(cell_far _ _ _ _ zb).trans e0, (cell_far _ _ _ _ zb).trans e1, (cell_far _ _ _ _ cbb).trans ez⟩ | go_keep)
              clear hK K
              try simp only [Act.put, List.setIfInBounds_toArray, List.set_cons_zero, List.set_cons_succ]
              refine wpAnyH_ready (rs := [16]) (by kernel_rfl) (by simp) ?_
              refine AllReadyH.cons (i := 16) rfl (fun K hK => ?_) AllReadyH.nil
              go_simp
              refine hK.out _ _ ?_ (fun hHeld => ?_)
              focus ((try dsimp only); first | with_reducible exact ⟨e0, e1, ez⟩ | with_reducible exact ⟨(cell_far _ _ _ _ zb).trans e0, (cell_far _ _ _ _ zb).trans e1, (cell_far _ _ _ _ cbb).trans ez⟩ | go_keep)
              clear hK K
              try simp only [Act.put, List.setIfInBounds_toArray, List.set_cons_zero, List.set_cons_succ]
              refine wpAnyH_ready (rs := [17]) (by kernel_rfl) (by simp) ?_
              refine AllReadyH.cons (i := 17) rfl (fun K hK => ?_) AllReadyH.nil
              (refine step_append_lies _ (by rfl) (.tmp 77) (.tmp 92) 65 (by rfl) (b + 1) 109 j0 (.agg #[.int .i64 0, .int .i64 0, .int .i64 0, .int .i64 0]) 4 32 Try.underlying65 hj0 hy0 hy1 hy2 rfl (by decide) (.slice la3 n3 lcap3) n3 (slcs c i n3) (by simp [Act.eval]) (own_ext PR5.out.ol (by repeat (first | with_reducible exact Ext.refl _ | with_reducible refine Ext.drew ?_ | with_reducible refine Ext.drewN ?_ _ | with_reducible refine Ext.alloc ?_ _))) ⟨w5.heap.size, 0, none⟩ 1 1 [.int .i64 k, .int .i64 (nth c.cl k), .int .i64 (PP + at_), .int .i64 p2] (by simp [Act.eval]) rfl (fun j u hu => by first | exact NB1.out j u hu | exact NB2.out j u hu | fail) ONE4.out (by decide) (by unfold maxLen; omega) (by omega) (by simp; omega) (w5.heap.size + 1) (by simp) ?_; intro g' cap' w6 hown hgrow hat hltg; obtain ⟨r0, r1, r2, r3, r4, rf, re⟩ := PR5.out.grown PR5.out.ol (by repeat (first | with_reducible exact Ext.refl _ | with_reducible refine Ext.drew ?_ | with_reducible refine Ext.drewN ?_ _ | with_reducible refine Ext.alloc ?_ _)) hgrow; have xx := ((Ext.refl _).alloc _).trans re; obtain ⟨e0, e1, _⟩ := box6 xx; rw [hz] at e0 e1; have ez := (hx.trans xx).cell (HC.out k hlt); have rf0 := rf 0; have PR6 := Lib.hid (PR5.out.pushL (by repeat (first | with_reducible exact Ext.refl _ | with_reducible refine Ext.drew ?_ | with_reducible refine Ext.drewN ?_ _ | with_reducible refine Ext.alloc ?_ _)) hgrow (by rw [SLC.out]; exact hown)))
              refine hK.out _ _ ?_ (fun hHeld => ?_)
              focus ((try dsimp only); first | with_reducible exact ⟨e0, e1, ez⟩ | with_reducible exact ⟨(cell_far _ _ _ _ zb).trans e0, (cell_far _ _ _ _ zb).trans e1, (cell_far _ _ _ _ cbb).trans ez⟩ | go_keep)
              clear hK K
              try simp only [Act.put, List.setIfInBounds_toArray, List.set_cons_zero, List.set_cons_succ]
              refine wpAnyH_take (i := 18) (v := ?_) rfl (by kernel_rfl) (by kernel_rfl) (by kernel_rfl) (fun _ _ _ h => h) (Or.inl ⟨by rfl, ?_⟩) (by assumption) ?_
              rotate_left
              focus (intro w hSw; (try dsimp only at hSw); go_simp; try with_reducible rfl)
              try simp only [Act.put, List.setIfInBounds_toArray, List.set_cons_zero, List.set_cons_succ]
              refine wpAnyH_ready (rs := [19]) (by kernel_rfl) (by simp) ?_
              refine AllReadyH.cons (i := 19) rfl (fun K hK => ?_) AllReadyH.nil
              go_simp
              refine hK.out _ _ ?_ (fun hHeld => ?_)
              focus ((try dsimp only); first | with_reducible exact ⟨e0, e1, ez⟩ | with_reducible exact ⟨(cell_far _ _ _ _ zb).trans e0, (cell_far _ _ _ _ zb).trans e1, (cell_far _ _ _ _ cbb).trans ez⟩ | go_keep)
              clear hK K
              try simp only [Act.put, List.setIfInBounds_toArray, List.set_cons_zero, List.set_cons_succ]
              refine wpAnyH_done (by kernel_rfl) ?_ _
              rotate_left
              go_simp
              refine hK.out _ _ ?_ (fun hHeld => ?_)
              focus ((try dsimp only); first | with_reducible exact ⟨e0, e1, ez⟩ | with_reducible exact ⟨(cell_far _ _ _ _ zb).trans e0, (cell_far _ _ _ _ zb).trans e1, (cell_far _ _ _ _ cbb).trans ez⟩ | go_keep)
              clear hK K
              try simp only [Act.put, List.setIfInBounds_toArray, List.set_cons_zero, List.set_cons_succ]
              refine wpAnyH_ready (rs := [1]) (by kernel_rfl) (by simp) ?_
              refine AllReadyH.cons (i := 1) rfl (fun K hK => ?_) AllReadyH.nil
              go_simp
              refine hK.out _ _ ?_ (fun hHeld => ?_)
              focus ((try dsimp only); first | with_reducible exact ⟨e0, e1, ez⟩ | with_reducible exact ⟨(cell_far _ _ _ _ zb).trans e0, (cell_far _ _ _ _ zb).trans e1, (cell_far _ _ _ _ cbb).trans ez⟩ | go_keep)
              clear hK K
              try simp only [Act.put, List.setIfInBounds_toArray, List.set_cons_zero, List.set_cons_succ]
              refine wpAnyH_ready (rs := [17]) (by kernel_rfl) (by simp) ?_
              refine AllReadyH.cons (i := 17) rfl (fun K hK => ?_) AllReadyH.nil
              (refine step_append_lies _ (by rfl) (.tmp 77) (.tmp 92) 65 (by rfl) (b + 1) 109 j0 (.agg #[.int .i64 0, .int .i64 0, .int .i64 0, .int .i64 0]) 4 32 Try.underlying65 hj0 hy0 hy1 hy2 rfl (by decide) (.slice la3 n3 lcap3) n3 (slcs c i n3) (by simp [Act.eval]) (own_ext PR5.out.ol (by repeat (first | with_reducible exact Ext.refl _ | with_reducible refine Ext.drew ?_ | with_reducible refine Ext.drewN ?_ _ | with_reducible refine Ext.alloc ?_ _))) ⟨w5.heap.size, 0, none⟩ 1 1 [.int .i64 k, .int .i64 (nth c.cl k), .int .i64 (PP + at_), .int .i64 p2] (by simp [Act.eval]) rfl (fun j u hu => by first | exact NB1.out j u hu | exact NB2.out j u hu | fail) ONE4.out (by decide) (by unfold maxLen; omega) (by omega) (by simp; omega) (w5.heap.size + 1) (by simp) ?_; intro g' cap' w6 hown hgrow hat hltg; obtain ⟨r0, r1, r2, r3, r4, rf, re⟩ := PR5.out.grown PR5.out.ol (by repeat (first | with_reducible exact Ext.refl _ | with_reducible refine Ext.drew ?_ | with_reducible refine Ext.drewN ?_ _ | with_reducible refine Ext.alloc ?_ _)) hgrow; have xx := ((Ext.refl _).alloc _).trans re; obtain ⟨e0, e1, _⟩ := box6 xx; rw [hz] at e0 e1; have ez := (hx.trans xx).cell (HC.out k hlt); have rf0 := rf 0; have PR6 := Lib.hid (PR5.out.pushL (by repeat (first | with_reducible exact Ext.refl _ | with_reducible refine Ext.drew ?_ | with_reducible refine Ext.drewN ?_ _ | with_reducible refine Ext.alloc ?_ _)) hgrow (by rw [SLC.out]; exact hown)))
              refine hK.out _ _ ?_ (fun hHeld => ?_)
              focus ((try dsimp only); first | with_reducible exact ⟨e0, e1, ez⟩ | with_reducible exact ⟨(cell_far _ _ _ _ zb).trans e0, (cell_far _ _ _ _ zb).trans e1, (cell_far _ _ _ _ cbb).trans ez⟩ | go_keep)
              clear hK K
              try simp only [Act.put, List.setIfInBounds_toArray, List.set_cons_zero, List.set_cons_succ]
              refine wpAnyH_take (i := 18) (v := ?_) rfl (by kernel_rfl) (by kernel_rfl) (by kernel_rfl) (fun _ _ _ h => h) (Or.inl ⟨by rfl, ?_⟩) (by assumption) ?_
              rotate_left
              focus (intro w hSw; (try dsimp only at hSw); go_simp; try with_reducible rfl)
              try simp only [Act.put, List.setIfInBounds_toArray, List.set_cons_zero, List.set_cons_succ]
              refine wpAnyH_ready (rs := [19]) (by kernel_rfl) (by simp) ?_
              refine AllReadyH.cons (i := 19) rfl (fun K hK => ?_) AllReadyH.nil
              go_simp
              refine hK.out _ _ ?_ (fun hHeld => ?_)
              focus ((try dsimp only); first | with_reducible exact ⟨e0, e1, ez⟩ | with_reducible exact ⟨(cell_far _ _ _ _ zb).trans e0, (cell_far _ _ _ _ zb).trans e1, (cell_far _ _ _ _ cbb).trans ez⟩ | go_keep)
              clear hK K
              try simp only [Act.put, List.setIfInBounds_toArray, List.set_cons_zero, List.set_cons_succ]
              refine wpAnyH_done (by kernel_rfl) ?_ _
              rotate_left
              all_goals (refine NoPanic.normal ?_)
              all_goals
                have f0 := (cell_far w6 ⟨b, 0, none⟩ ⟨z, 0, none⟩ (.slice (some ⟨g', 0, none⟩) (n3 + 1) cap') zb).trans e0
                have f1 := (cell_far w6 ⟨b, 0, none⟩ ⟨cb, co + k, none⟩ (.slice (some ⟨g', 0, none⟩) (n3 + 1) cap') cbb).trans ez
                go_wp2_with fail
                go_roundw
                case rel => exact ⟨m + 1, n3 + 1, _, _, _, by omega, rfl, by have := ELF.out; unfold Hid; omega, by go_num, rfl, by unfold Hid; rw [EA.out, Int.natCast_add, Int.add_mul]; simp, by have := EN4.out; unfold Hid; omega, PR6⟩
                case measure => simp [intOf]; omega
            · obtain rfl : m = M := by omega
              have q2 := PR.out.c2
              have bl5 : b < wr.heap.size := cell_lt q2
              by_cases hL : 0 < L
              · have hper : (m : Int) = perOf c k := by have h1 := ONE.out; have h2 := ELF.out; omega
                have t1 : decide (0 < L) = true := by simpa using hL
                have t2 : decide (at_ + nth c.cl k ≤ c.page) = false := by
                  have := at_out (m := m) u1 HPE.out hper; rw [← EA.out] at this; simpa using this
                clear hL hper
                go_wp2_with fail
                refine wp_region_quiet_lit (by kernel_rfl) (by kernel_rfl) ?_
                repeat (any_goals (first | go_big_quiet_step (fail) | quiet_step (fail) | simp only [t1]))
                all_goals (refine wpQuiet_nil ?_; intro _ hw'; obtain ⟨nq, hw''⟩ := hw'; subst hw'')
                clear b0 b1 b2 b3 b4 b5 zk ww
                go_wp2_with (at_builtin; refine wpList_append_lies _ rfl (.tmp 100) (.tmp 102) 22 rfl (b + 1) 3 i0 (.int .i64 0) 1 8 Try.underlying22 hi0 hz0 hz1 hz2 rfl (by decide) mv p2 (ncs .i64 (manys c i p2)) rfl (own_ext PR.out.om (by repeat (first | with_reducible exact Ext.refl _ | with_reducible refine Ext.drew ?_ | with_reducible refine Ext.drewN ?_ _ | with_reducible refine Ext.alloc ?_ _))) ⟨wr.heap.size, 0, none⟩ 1 1 [.int .i64 m] rfl rfl (newsb9 _ _ (by simp)) (one1 rfl) (by decide) (by unfold maxLen; omega) (by omega) (by simp; omega) (wr.heap.size + 1) (by simp) ?_; intro g7 cap7 w7 hown hgrow hat hlt7; obtain ⟨g0, g1, g2, g3, g4, gf, ge⟩ := PR.out.grown PR.out.om (by repeat (first | with_reducible exact Ext.refl _ | with_reducible refine Ext.drew ?_ | with_reducible refine Ext.drewN ?_ _ | with_reducible refine Ext.alloc ?_ _)) hgrow; have gf2 := gf 2; have PR7 := Lib.hid (PR.out.pushM (by repeat (first | with_reducible exact Ext.refl _ | with_reducible refine Ext.drew ?_ | with_reducible refine Ext.drewN ?_ _ | with_reducible refine Ext.alloc ?_ _)) hgrow (by rw [F2.out, ← ncs_snoc]; exact hown) (by rw [show ((wr.drewN nq).alloc (.cells #[.int .i64 m] 3)).heap.size = wr.heap.size + 1 by simp]; exact own_at hat)); clear hown hgrow hat hlt7 gf)
                go_roundw
                case rel => exact ⟨d + 1, n3, p2 + 1, L, lv, _, _, by have := DP.out; omega, rfl, by have h1 := NX.out; have h2 := ELF.out; unfold Hid; omega, by have h1 := EN4.out; have h2 := EN3.out; have h3 := ELF.out; have h4 := HLF.out; unfold Hid; omega, by have h1 := EP2.out; unfold Hid; omega, PR7⟩
                case measure => have h2 := ELF.out; simp [intOf]; omega
              · have t1 : decide (0 < L) = false := by simpa using hL
                clear hL
                go_wp2_with fail
                refine wp_region_quiet_lit (by kernel_rfl) (by kernel_rfl) ?_
                repeat (any_goals (first | go_big_quiet_step (fail) | quiet_step (fail) | simp only [t1]))
                all_goals (refine wpQuiet_nil ?_; intro _ hw'; obtain ⟨nq, hw''⟩ := hw'; subst hw'')
                clear b0 b1 b2 b3 b4 b5 zk ww
                go_wp2_with (at_builtin; refine wpList_append_lies _ rfl (.tmp 100) (.tmp 102) 22 rfl (b + 1) 3 i0 (.int .i64 0) 1 8 Try.underlying22 hi0 hz0 hz1 hz2 rfl (by decide) mv p2 (ncs .i64 (manys c i p2)) rfl (own_ext PR.out.om (by repeat (first | with_reducible exact Ext.refl _ | with_reducible refine Ext.drew ?_ | with_reducible refine Ext.drewN ?_ _ | with_reducible refine Ext.alloc ?_ _))) ⟨wr.heap.size, 0, none⟩ 1 1 [.int .i64 m] rfl rfl (newsb9 _ _ (by simp)) (one1 rfl) (by decide) (by unfold maxLen; omega) (by omega) (by simp; omega) (wr.heap.size + 1) (by simp) ?_; intro g7 cap7 w7 hown hgrow hat hlt7; obtain ⟨g0, g1, g2, g3, g4, gf, ge⟩ := PR.out.grown PR.out.om (by repeat (first | with_reducible exact Ext.refl _ | with_reducible refine Ext.drew ?_ | with_reducible refine Ext.drewN ?_ _ | with_reducible refine Ext.alloc ?_ _)) hgrow; have gf2 := gf 2; have PR7 := Lib.hid (PR.out.pushM (by repeat (first | with_reducible exact Ext.refl _ | with_reducible refine Ext.drew ?_ | with_reducible refine Ext.drewN ?_ _ | with_reducible refine Ext.alloc ?_ _)) hgrow (by rw [F2.out, ← ncs_snoc]; exact hown) (by rw [show ((wr.drewN nq).alloc (.cells #[.int .i64 m] 3)).heap.size = wr.heap.size + 1 by simp]; exact own_at hat)); clear hown hgrow hat hlt7 gf)
                go_roundw
                case rel => exact ⟨d + 1, n3, p2 + 1, L, lv, _, _, by have := DP.out; omega, rfl, by have h1 := NX.out; have h2 := ELF.out; unfold Hid; omega, by have h1 := EN4.out; have h2 := EN3.out; have h3 := ELF.out; have h4 := HLF.out; unfold Hid; omega, by have h1 := EP2.out; unfold Hid; omega, PR7⟩
                case measure => have h2 := ELF.out; simp [intOf]; omega
        · have hlf0 : lf = 0 := by
            have := EL.out
            unfold leftM at this
            split at this <;> omega
          have hend : (d : Int) = pagesOf c i k := pages_all HO.out hi hlt hd (by
            intro h
            have := EL.out
            unfold leftM at this
            rw [if_pos h] at this
            omega)
          have EN5 : Hid ((n2 : Int) = sS c i (k + 1)) := Lib.hid (by have h1 := EN2.out; have h2 := SS.out; omega)
          have EP5 : Hid ((p2 : Int) = sG c i (k + 1)) := Lib.hid (by have h1 := EP2.out; have h2 := SG.out; omega)
          clear hend EL EN2
          subst hlf0
          go_wp2_with fail
          go_roundw
          case rel => exact ⟨k + 1, n2, p2, lv, fv, mv, by omega, by go_num, EN5, EP5, PR⟩
          case measure => simp [intOf]; omega
    · obtain rfl : k = c.cl.length := by omega
      obtain rfl : n = nS c i := by have h1 := EN.out; have h2 := HO.out.nS_eq hi; omega
      obtain rfl : p = nG c i := by have h1 := EP.out; have h2 := HO.out.nG_eq hi; omega
      have xw := hx.trans (((Ext.refl _).alloc _).trans PR.out.ext)
      obtain ⟨lb, lc, fb, fc, mb, mc, rfl, rfl, rfl, hp, bl, bf, bm⟩ := PR.out.plan HO.out hi (H.out.cl.ext xw)
      have HPL := Lib.hid hp
      have q0 := PR.out.c0; have q1 := PR.out.c1; have q2 := PR.out.c2; have q3 := PR.out.c3; have q4 := PR.out.c4
      have r0 := PR.out.ext.cell (BR.out 0 _ rfl); have r1 := PR.out.ext.cell (BR.out 1 _ rfl); have r2 := PR.out.ext.cell (BR.out 2 _ rfl); have r3 := PR.out.ext.cell (BR.out 3 _ rfl); have r4 := PR.out.ext.cell (BR.out 4 _ rfl)
      have rf : ∀ o, wr.frozen? ⟨z + 1, o, none⟩ = false := fun o => by rw [PR.out.ext.frozen (p := ⟨z + 1, o, none⟩) (by simp [hz])]; exact FR.out o
      have f0 := rf 0; have f1 := rf 1; have f2 := rf 2; have f3 := rf 3; have f4 := rf 4
      have XW := Lib.hid xw
      clear hp xw rf
      go_wp2_with fail
      have s0 := set_same (w := wr) (u := .slice (some ⟨lb, 0, none⟩) (nS c i) lc) r0
      have s1 := set_same (w := (wr.setCell ⟨z + 1, 0, none⟩ (.slice (some ⟨lb, 0, none⟩) (nS c i) lc))) (u := .slice (some ⟨fb, 0, none⟩) (nG c i) fc) (set_oth (by decide) r1)
      have s2 := set_same (w := ((wr.setCell ⟨z + 1, 0, none⟩ (.slice (some ⟨lb, 0, none⟩) (nS c i) lc)).setCell ⟨z + 1, 1, none⟩ (.slice (some ⟨fb, 0, none⟩) (nG c i) fc))) (u := .slice (some ⟨mb, 0, none⟩) (nG c i) mc) (set_oth (by decide) (set_oth (by decide) r2))
      have s3 := set_same (w := (((wr.setCell ⟨z + 1, 0, none⟩ (.slice (some ⟨lb, 0, none⟩) (nS c i) lc)).setCell ⟨z + 1, 1, none⟩ (.slice (some ⟨fb, 0, none⟩) (nG c i) fc)).setCell ⟨z + 1, 2, none⟩ (.slice (some ⟨mb, 0, none⟩) (nG c i) mc))) (u := .int .i64 wo) (set_oth (by decide) (set_oth (by decide) (set_oth (by decide) r3)))
      have s4 := set_same (w := ((((wr.setCell ⟨z + 1, 0, none⟩ (.slice (some ⟨lb, 0, none⟩) (nS c i) lc)).setCell ⟨z + 1, 1, none⟩ (.slice (some ⟨fb, 0, none⟩) (nG c i) fc)).setCell ⟨z + 1, 2, none⟩ (.slice (some ⟨mb, 0, none⟩) (nG c i) mc)).setCell ⟨z + 1, 3, none⟩ (.int .i64 wo))) (u := .slice (some ⟨cb, co, none⟩) c.cl.length cc) (set_oth (by decide) (set_oth (by decide) (set_oth (by decide) (set_oth (by decide) r4))))
      have HWV := HWO.out
      refine bodyPost_ret (v := .tuple #[dpv lb lc fb fc mb mc (some ⟨cb, co, none⟩) cc c i, .int .i64 0]) (by simp [results, Try.results25, go_sem, s0, s1, s2, s3, s4, dpv, HWV]) rfl ⟨lb, lc, fb, fc, mb, mc, some ⟨cb, co, none⟩, cc, rfl, ?_, ?_⟩
      · have zl : z + 1 < b := by have := PR.out.lo; simp [hz] at this; omega
        have cl : cb < z := by have := cell_lt (HC.out 0 (by omega)); dsimp only at this; omega
        have nk : ∀ (b' o' : Nat), (some (⟨cb, co, none⟩ : Addr)) = some ⟨b', o', none⟩ → b' ≠ z + 1 := fun b' o' e => by cases e; omega
        have far := fun {W : World} {o : Nat} {u : Value} (h : DPlan W lb fb mb (some ⟨cb, co, none⟩) c i) => h.far (x := z + 1) (o := o) (u := u) (by omega) (by omega) (by omega) nk
        exact far (far (far (far (far HPL.out))))
      · have e1 : w.heap.size ≤ z + 1 := by omega
        exact ((((XW.out.setCell (p := ⟨z + 1, 0, none⟩) e1 _).setCell (p := ⟨z + 1, 1, none⟩) e1 _).setCell (p := ⟨z + 1, 2, none⟩) e1 _).setCell (p := ⟨z + 1, 3, none⟩) e1 _).setCell (p := ⟨z + 1, 4, none⟩) e1 _

end Go.Proofs.Yteopbobhphghhaa
