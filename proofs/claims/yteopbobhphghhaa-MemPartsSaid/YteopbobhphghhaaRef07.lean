/-
  commonageref07: the document's memory: its shape; New, In, Load.
-/
import Derived.Test.YteopbobhphghhaaMemN
import Derived.Test.YteopbobhphghhaaMemQ
import Derived.Test.YteopbobhphghhaaRef06
import Derived.Deep.RegionLaw
namespace Go.Proofs.Yteopbobhphghhaa
open Go.RowKit

/-- The document's memory: a row of slices, each leads to a region's words; no block of them is one of P. -/
structure DocAt (P : Nat → Prop) (w : World) (d : Nat) (c : Conf) (ws : List Int) : Prop where
  ok : KOk c
  len : ws.length = totalN c
  np : ¬ P d
  row : ∀ t, t < c.ts.length → ∃ g rc, ¬ P g ∧ w.cell? ⟨d, t, none⟩ = some (.slice (some ⟨g, 0, none⟩) (wordsN c t) rc) ∧ At .u64 w (some ⟨g, 0, none⟩) (regionL c ws t)
theorem DocAt.chg {P Q : Nat → Prop} {w w' : World} {d : Nat} {c : Conf} {ws : List Int} (h : DocAt P w d c ws) (hx : Chg Q w w') (hQ : ∀ k, Q k → P k) : DocAt P w' d c ws :=
  ⟨h.ok, h.len, h.np, fun t ht => by
    obtain ⟨g, rc, n2, h1, h2⟩ := h.row t ht
    exact ⟨g, rc, n2, hx.cell (fun q => h.np (hQ _ q)) h1, h2.chg hx fun b o e _ q => by cases e; exact n2 (hQ _ q)⟩⟩
theorem DocAt.ext {P : Nat → Prop} {w w' : World} {d : Nat} {c : Conf} {ws : List Int} (h : DocAt P w d c ws) (hx : Ext w w') : DocAt P w' d c ws :=
  h.chg (Q := fun _ => False) (Chg.of_ext hx) fun _ q => q.elim
theorem DocAt.lt {P : Nat → Prop} {w : World} {d : Nat} {c : Conf} {ws : List Int} (h : DocAt P w d c ws) : d < w.heap.size := by
  obtain ⟨g, rc, _, h1, _⟩ := h.row 0 (by have := h.ok.head.2.2.1; omega)
  exact cell_lt h1
theorem DocAt.swap {P Q : Nat → Prop} {w : World} {d : Nat} {c : Conf} {ws : List Int} (h : DocAt P w d c ws) (hQ : ∀ k, k < w.heap.size → Q k → P k) : DocAt Q w d c ws :=
  ⟨h.ok, h.len, fun q => h.np (hQ _ h.lt q), fun t ht => by
    obtain ⟨g, rc, n2, h1, h2⟩ := h.row t ht
    refine ⟨g, rc, fun q => n2 (hQ _ ?_ q), h1, h2⟩
    obtain ⟨b', o', e, hc⟩ := h2 0 (by rw [regionL_len h.ok ht h.len]; exact h.ok.words_pos ht)
    cases e; exact cell_lt hc⟩
theorem DocAt.word {P : Nat → Prop} {w : World} {d t i g : Nat} {c : Conf} {ws : List Int} (h : DocAt P w d c ws) (ht : t < c.ts.length) (hi : i < wordsN c t) (h2 : At .u64 w (some ⟨g, 0, none⟩) (regionL c ws t)) : w.cell? ⟨g, i, none⟩ = some (.int .u64 (nth ws (baseN c t + i))) := by
  obtain ⟨b', o', e, hc⟩ := h2 i (by rw [regionL_len h.ok ht h.len]; exact hi)
  cases e
  rwa [Nat.zero_add, nth_regionL hi] at hc

theorem DocAt.off {P : Nat → Prop} {w : World} {d b : Nat} {v : Value} {c : Conf} {ws : List Int} (h : DocAt P w d c ws) (hd : b ≠ d) (hc : w.cell? ⟨b, 0, none⟩ = some v) (hv : ∀ x, v ≠ .int .u64 x) (u : Value) : DocAt P (w.setCell ⟨b, 0, none⟩ u) d c ws := by
  refine ⟨h.ok, h.len, h.np, fun t ht => ?_⟩
  obtain ⟨g, rc, n2, h1, h2⟩ := h.row t ht
  have ng : b ≠ g := by
    rintro rfl
    obtain ⟨b', o', e, c0⟩ := h2 0 (by rw [regionL_len h.ok ht h.len]; exact h.ok.words_pos ht)
    cases e
    rw [Nat.zero_add, hc] at c0
    exact hv _ (by injection c0)
  refine ⟨g, rc, n2, by rw [cell_far _ _ _ _ (show b ≠ d from hd)]; exact h1, fun i hi => ?_⟩
  obtain ⟨b', o', e, c0⟩ := h2 i hi
  cases e
  exact ⟨g, 0, rfl, by rw [cell_far _ _ _ _ (show b ≠ g from ng)]; exact c0⟩

/-! ### A row of slices that grows -/
structure RowsR (P : Nat → Prop) (w0 : World) (c : Conf) (ws : List Int) (z k : Nat) (sv : Value) (vs : List Value) (wr : World) : Prop where
  c0 : wr.cell? ⟨z, 0, none⟩ = some sv
  own : wr.ownsRow (z + 1) 38 1 sv k vs
  rows : ∀ t, t < k → ∃ g rc, vs[t]? = some (.slice (some ⟨g, 0, none⟩) (wordsN c t) rc) ∧ ¬ P g ∧ g < wr.heap.size ∧ At .u64 wr (some ⟨g, 0, none⟩) (regionL c ws t) ∧ 0 < (regionL c ws t).length
  fz : wr.frozen? ⟨z, 0, none⟩ = false
  lo : w0.heap.size ≤ z
  ext : Ext w0 wr
  nil0 : k = 0 → sv = .slice none 0 0
theorem RowsR.go {P : Nat → Prop} {w0 wr w' : World} {c : Conf} {ws : List Int} {z k : Nat} {sv : Value} {vs : List Value} (h : RowsR P w0 c ws z k sv vs wr) (hx : Ext wr w') : RowsR P w0 c ws z k sv vs w' :=
  ⟨hx.cell h.c0, own_ext h.own hx, fun t ht => by
    obtain ⟨g, rc, h1, h2, h3, h4, h5⟩ := h.rows t ht
    exact ⟨g, rc, h1, h2, Nat.lt_of_lt_of_le h3 hx.size, h4.ext hx, h5⟩, hx.frozenAt h.c0 h.fz, h.lo, h.ext.trans hx, h.nil0⟩
theorem own_slice_ne {w : World} {base k g : Nat} {sv : Value} {vs : List Value} {e : TypeId} {x : Int} (h : w.ownsRow base e 1 sv k vs) (h0 : k = 0 → sv = .slice none 0 0) (hv : ∀ v, vs[0]? = some v → ∃ a n c, v = .slice a n c) (hc : w.cell? ⟨g, 0, none⟩ = some (.int .u64 x)) : some g ≠ sv.ownBlock := by
  intro e0
  rcases Nat.eq_zero_or_pos k with hk | hk
  · rw [h0 hk] at e0; cases e0
  · obtain ⟨b, cap, rfl, _, _⟩ := h.form hk
    have hb : g = b := by simpa [Value.ownBlock] using e0
    subst hb
    have h1 := h.cellAt 0 (by omega)
    rw [hc] at h1
    obtain ⟨a, n, c, e⟩ := hv _ h1.symm
    cases e
theorem RowsR.ne {P : Nat → Prop} {w0 wr : World} {c : Conf} {ws : List Int} {z k g : Nat} {sv : Value} {vs : List Value} {x : Int} (h : RowsR P w0 c ws z k sv vs wr) (hc : wr.cell? ⟨g, 0, none⟩ = some (.int .u64 x)) : some g ≠ sv.ownBlock := by
  refine own_slice_ne h.own h.nil0 (fun v hv => ?_) hc
  rcases Nat.eq_zero_or_pos k with hk | hk
  · obtain ⟨hl, _⟩ := h.own
    have := (List.getElem?_eq_some_iff.1 hv).1
    omega
  · obtain ⟨g, rc, e, _⟩ := h.rows 0 hk
    rw [hv] at e
    exact ⟨_, _, _, by injection e⟩
theorem RowsR.grown {P : Nat → Prop} {w0 w3 W w4 : World} {c : Conf} {ws : List Int} {z k : Nat} {sv : Value} {vs : List Value} (h : RowsR P w0 c ws z k sv vs w3) (hx : Ext w3 W) (hg : W.grownBy w4 sv.ownBlock) : w4.cell? ⟨z, 0, none⟩ = some sv ∧ w4.frozen? ⟨z, 0, none⟩ = false := by
  have n : some z ≠ sv.ownBlock := fun e => by have := (h.own.lt z e.symm).1; omega
  exact ⟨grow_cell hg hx h.c0 n, grow_frozen hg hx h.c0 h.fz n⟩
theorem RowsR.push {P : Nat → Prop} {w0 w3 W w4 : World} {c : Conf} {ws : List Int} {z k g rc : Nat} {sv V : Value} {vs : List Value} (h : RowsR P w0 c ws z k sv vs w3) (hx : Ext w3 W) (hg : W.grownBy w4 sv.ownBlock)
    (hown : w4.ownsRow (z + 1) 38 1 V (k + 1) (vs ++ [.slice (some ⟨g, 0, none⟩) (wordsN c k) rc])) (hp : ¬ P g) (hr : At .u64 W (some ⟨g, 0, none⟩) (regionL c ws k)) (hpos : 0 < (regionL c ws k).length) :
    RowsR P w0 c ws z (k + 1) V (vs ++ [.slice (some ⟨g, 0, none⟩) (wordsN c k) rc]) (w4.setCell ⟨z, 0, none⟩ V) := by
  have n : some z ≠ sv.ownBlock := fun e => by have := (h.own.lt z e.symm).1; omega
  have hW := h.go hx
  have hl : vs.length = k := by have := h.own.1; omega
  have q := (h.grown hx hg).1
  -- a row of words outlives the append and the store
  have keep : ∀ g' xs, 0 < xs.length → At .u64 W (some ⟨g', 0, none⟩) xs → At .u64 (w4.setCell ⟨z, 0, none⟩ V) (some ⟨g', 0, none⟩) xs ∧ g' < w4.heap.size := by
    intro g' xs h0 ha
    obtain ⟨b0, o0, e0, c0⟩ := ha 0 h0
    cases e0
    have nz : z ≠ g' := by
      rintro rfl
      have := hW.c0
      rw [c0] at this
      cases this
      have := h.own.1
      rcases h.own.2 with ⟨e, _⟩ | ⟨_, _, _, e, _⟩ <;> cases e
    have ng := hW.ne c0
    refine ⟨fun i hi => ?_, ?_⟩
    · obtain ⟨b1, o1, e1, c1⟩ := ha i hi
      cases e1
      refine ⟨g', 0, rfl, ?_⟩
      rw [cell_far _ _ _ _ (show z ≠ g' from nz)]
      exact grow_cell hg (Ext.refl W) c1 ng
    · exact cell_lt (grow_cell hg (Ext.refl W) c0 ng)
  refine ⟨World.cell?_setCell_same _ _ _ q, own_setCell hown (p := ⟨z, 0, none⟩) (Nat.lt_succ_self z) _, fun t ht => ?_, ?_, h.lo, ?_, fun e => by omega⟩
  · rcases Nat.lt_or_ge t k with ht | ht
    · obtain ⟨g', rc', h1, h2, h3, h4, h5⟩ := hW.rows t ht
      have := keep g' _ h5 h4
      exact ⟨g', rc', by rw [List.getElem?_append_left (by omega)]; exact h1, h2, by simpa using this.2, this.1, h5⟩
    · obtain rfl : t = k := by omega
      have := keep g _ hpos hr
      exact ⟨g, rc, by rw [← hl]; simp, hp, by simpa using this.2, this.1, hpos⟩
  · simpa using (h.grown hx hg).2
  · exact ((h.ext.trans hx).grown hg fun k' e => by have := (h.own.lt k' e).1; have := h.lo; omega).setCell (p := ⟨z, 0, none⟩) h.lo V
theorem RowsR.doc {P : Nat → Prop} {w0 wr : World} {c : Conf} {ws : List Int} {z : Nat} {sv : Value} {vs : List Value} (h : RowsR P w0 c ws z c.ts.length sv vs wr) (ho : KOk c) (hl : ws.length = totalN c) (hP : ∀ k, P k → k < w0.heap.size) :
    ∃ d cap, sv = .slice (some ⟨d, 0, none⟩) c.ts.length cap ∧ DocAt P wr d c ws ∧ z + 1 ≤ d := by
  obtain ⟨d, cap, rfl, hd, _⟩ := h.own.form (by have := ho.head.2.2.1; omega)
  refine ⟨d, cap, rfl, ⟨ho, hl, fun q => by have := hP _ q; have := h.lo; omega, fun t ht => ?_⟩, hd⟩
  obtain ⟨g, rc, h1, h2, h3, h4, _⟩ := h.rows t ht
  exact ⟨g, rc, h2, by rw [h.own.cellAt _ (by omega)]; exact h1, h4⟩
theorem RowsR.start {P : Nat → Prop} {w0 wr : World} {c : Conf} {ws : List Int} {z : Nat} (h0 : wr.cell? ⟨z, 0, none⟩ = some (.slice none 0 0)) (hf : wr.frozen? ⟨z, 0, none⟩ = false) (lo : w0.heap.size ≤ z) (hx : Ext w0 wr) : RowsR P w0 c ws z 0 (.slice none 0 0) [] wr :=
  ⟨h0, World.ownsRow_nil _ _ _ _, fun _ ht => absurd ht (Nat.not_lt_zero _), hf, lo, hx, fun _ => rfl⟩

theorem newsb {W : World} {b : Nat} (v : Value) (t : TypeId) (hb : W.heap.size = b) : ∀ j u, [v][j]? = some u → (W.alloc (.cells #[v] t)).cell? ((⟨b, 0, none⟩ : Addr).add j) = some u := by
  subst hb; exact news1 W v t
/-- What a call hands back: the document's memory. -/
def DocMade (P : Nat → Prop) (c : Conf) (ws : List Int) (w : World) (e : Ending) (w' : World) : Prop := ∃ d cap, e = .returned (.agg #[.slice (some ⟨d, 0, none⟩) c.ts.length cap]) ∧ DocAt P w' d c ws ∧ w.heap.size ≤ d ∧ Ext w w'
def DocMade2 (P : Nat → Prop) (c : Conf) (ws : List Int) (k : Int) (w : World) (e : Ending) (w' : World) : Prop := ∃ d cap, e = .returned (.tuple #[.agg #[.slice (some ⟨d, 0, none⟩) c.ts.length cap], .int .i64 k]) ∧ DocAt P w' d c ws ∧ Ext w w'

theorem info_rows : (Try.prog.info? 38).map (fun i => (i.zero, i.size, i.bytes)) = some (some (.slice none 0 0), 1, 24) := by kernel_rfl

set_option maxRecDepth 100000 in
set_option maxHeartbeats 4000000 in
theorem ref07_New {P : Nat → Prop} {ca ta : Option Addr} {cc tc : Nat} (c : Conf) {w : World} (hk0 : kcheck c = 0) (hP : ∀ k, P k → k < w.heap.size) (h : CfgAt w ca ta cc tc c) :
    Calls Try.prog 17 #[.agg #[.slice ca c.cl.length cc, .int .i64 c.page, .slice ta c.ts.length tc, .int .i64 c.wk, .int .i64 c.gr, .int .i64 c.gens]] w (DocMade P c (List.replicate (totalN c) 0) w) := by
  obtain ⟨i0, hi0, hz0, hz1, hz2⟩ := info_parts info_rows
  obtain ⟨z, hz⟩ : ∃ z, w.heap.size = z := ⟨_, rfl⟩
  have h1 := Ext.refl (w.alloc (.cells #[.slice ca c.cl.length cc, .int .i64 c.page, .slice ta c.ts.length tc, .int .i64 c.wk, .int .i64 c.gr, .int .i64 c.gens] 25))
  have hx := (Ext.refl w).alloc (.cells #[.slice ca c.cl.length cc, .int .i64 c.page, .slice ta c.ts.length tc, .int .i64 c.wk, .int .i64 c.gr, .int .i64 c.gens] 25)
  have ho := kcheck_ok hk0
  have K0 := Lib.hid hk0; have HO := Lib.hid ho; have HP := Lib.hid hP
  have t1 := ho.head.2.2.1
  have t8 := ho.head.2.2.2.1
  have tl := ho.total_le
  have H := Lib.hid h
  clear h hk0 ho hP
  go_enter Try.func17, Try.ntmps17
  go_wp2_with fail
  have R0 : Hid (RowsR P ((w.alloc (.cells #[.slice ca c.cl.length cc, .int .i64 c.page, .slice ta c.ts.length tc, .int .i64 c.wk, .int .i64 c.gr, .int .i64 c.gens] 25)).alloc (.cells #[.slice none 0 0] 48)) c (List.replicate (totalN c) 0) (z + 1 + 1) 0 (.slice none 0 0) [] (((w.alloc (.cells #[.slice ca c.cl.length cc, .int .i64 c.page, .slice ta c.ts.length tc, .int .i64 c.wk, .int .i64 c.gr, .int .i64 c.gens] 25)).alloc (.cells #[.slice none 0 0] 48)).alloc (.cells #[.slice none 0 0] 48))) := Lib.hid (by
    obtain ⟨q0, qf⟩ := box_new ((w.alloc (.cells #[.slice ca c.cl.length cc, .int .i64 c.page, .slice ta c.ts.length tc, .int .i64 c.wk, .int .i64 c.gr, .int .i64 c.gens] 25)).alloc (.cells #[.slice none 0 0] 48)) (.slice none 0 0) 48 (b := z + 1 + 1) (by simp [hz])
    exact RowsR.start q0 qf (by simp [hz]) ((Ext.refl _).alloc _))
  go_loopw [4] (fun kv wr => ∃ (k : Nat) (sv : Value) (vs : List Value), k ≤ c.ts.length ∧ kv = .int .i64 k ∧ Hid (RowsR P ((w.alloc (.cells #[.slice ca c.cl.length cc, .int .i64 c.page, .slice ta c.ts.length tc, .int .i64 c.wk, .int .i64 c.gr, .int .i64 c.gens] 25)).alloc (.cells #[.slice none 0 0] 48)) c (List.replicate (totalN c) 0) (z + 1 + 1) k sv vs wr)) (fun kv _ => c.ts.length - (intOf kv).toNat)
  case atStart => exact ⟨0, _, _, Nat.zero_le _, rfl, R0⟩
  case round =>
    clear R0 h1
    obtain ⟨k, sv, vs, hk, rfl, PR⟩ := hrel
    have h1 : Ext (w.alloc (.cells #[.slice ca c.cl.length cc, .int .i64 c.page, .slice ta c.ts.length tc, .int .i64 c.wk, .int .i64 c.gr, .int .i64 c.gens] 25)) wr := ((Ext.refl _).alloc _).trans PR.out.ext
    obtain ⟨b0, b1, b2, b3, b4, b5⟩ := box6 h1
    rw [hz] at b0 b1 b2 b3 b4 b5
    by_cases hlt : k < c.ts.length
    · have KR := Lib.hid (show kregion c k = (((wordsN c k : Nat) : Int), 0) by
        rw [kregion_yes (there_mk K0.out hlt HO.out.cl.pos), HO.out.wordsN_eq hlt])
      have RR := Lib.hid (replicate_region HO.out hlt)
      have wp := HO.out.words_pos hlt
      have win := HO.out.region_in hlt
      have hmk := make_mwords (wordsN c k) (by omega)
      have MR := Lib.hid (fun (W : World) (g : Nat) (hg : W.heap.size = g) => made_mwords (w := W) (n := wordsN c k) (t := 34) hg)
      go_wp2_with fail
      clear b0 b1 b2 b3 b4 b5
      refine (ref06_Region c k _ 0 KR.out (H.out.ext (hx.trans h1))).mono ?_
      rintro e w2 ⟨rfl, h2⟩
      have PR2 := Lib.hid (PR.out.go h2)
      clear h2 h1
      have p1 := PR2.out.c0
      have hb2 : z + 1 + 1 < w2.heap.size := cell_lt p1
      go_wp2_with fail
      have hb3 : z + 1 + 1 < w2.heap.size + 1 := by omega
      have n2 : ¬ z + 1 + 1 = w2.heap.size := by omega
      have n3 : ¬ z + 1 + 1 = w2.heap.size + 1 := by omega
      have NP := Lib.hid (show ¬ P w2.heap.size from fun q => by have := HP.out _ q; omega)
      have HPO := Lib.hid (show 0 < (regionL c (List.replicate (totalN c) 0) k).length by rw [RR.out, List.length_replicate]; exact wp)
      have pf : w2.frozen? ⟨z + 1 + 1, 0, none⟩ = false := PR2.out.fz
      go_region_law ((refine step_append_lies _ (by rfl) (.tmp 21) (.tmp 24) 37 (by rfl) (z + 1 + 1 + 1) 38 i0 (.slice none 0 0) 1 24 Try.underlying37 hi0 hz0 hz1 hz2 rfl (by decide) sv k vs (by simp [Act.eval]) (own_ext PR2.out.own (by repeat (first | with_reducible exact Ext.refl _ | with_reducible refine Ext.drew ?_ | with_reducible refine Ext.alloc ?_ _))) ⟨w2.heap.size + 1, 0, none⟩ 1 1 [.slice (some ⟨w2.heap.size, 0, none⟩) (wordsN c k) (wordsN c k)] (by simp [Act.eval]) rfl (newsb _ _ (by simp)) (one1 rfl) (by decide) (by unfold maxLen; omega) (by omega) (by simp; omega) (w2.heap.size + 1 + 1) (by simp) ?_; intro gg cap w4 hown hgrow hat hlt4; obtain ⟨q1, qf⟩ := PR2.out.grown (by repeat (first | with_reducible exact Ext.refl _ | with_reducible refine Ext.drew ?_ | with_reducible refine Ext.alloc ?_ _)) hgrow; have PR4 := Lib.hid (PR2.out.push (by repeat (first | with_reducible exact Ext.refl _ | with_reducible refine Ext.drew ?_ | with_reducible refine Ext.alloc ?_ _)) hgrow hown NP.out (by rw [RR.out]; first | exact (MR.out w2 _ rfl).ext (by repeat (first | with_reducible exact Ext.refl _ | with_reducible refine Ext.drew ?_ | with_reducible refine Ext.alloc ?_ _)) | exact (MR.out w2.drew _ rfl).ext (by repeat (first | with_reducible exact Ext.refl _ | with_reducible refine Ext.drew ?_ | with_reducible refine Ext.alloc ?_ _)) | fail) HPO.out)))
      all_goals
        go_wp2_with fail
        go_roundw
        case rel => exact ⟨k + 1, _, _, by omega, by go_num, PR4⟩
        case measure => simp [intOf]; omega
    · obtain rfl : k = c.ts.length := by omega
      obtain ⟨d, cap, rfl, hd, zd⟩ := PR.out.doc HO.out (by simp) (fun k q => by have := HP.out k q; have := hx.size; simp; omega)
      have DD := Lib.hid hd
      have p1 := PR.out.c0
      have X := Lib.hid PR.out.ext
      obtain ⟨q0, qf⟩ := box_up (box_new (w.alloc (.cells #[.slice ca c.cl.length cc, .int .i64 c.page, .slice ta c.ts.length tc, .int .i64 c.wk, .int .i64 c.gr, .int .i64 c.gens] 25)) (.slice none 0 0) 48 (b := z + 1) (by simp [hz])) X.out
      clear PR h1 hd
      go_wp2_with fail
      have q1 := World.cell?_setCell_same wr ⟨z + 1, 0, none⟩ (.slice (some ⟨d, 0, none⟩) c.ts.length cap) q0
      refine bodyPost_ret (v := .agg #[.slice (some ⟨d, 0, none⟩) c.ts.length cap]) (by simp [results, Try.results17, go_sem, q1]) rfl ⟨d, cap, rfl, ?_, by omega, ?_⟩
      · exact DD.out.off (by omega) q0 (by intro x e; cases e) _
      · exact (hx.trans (((Ext.refl _).alloc _).trans X.out)).setCell (p := ⟨z + 1, 0, none⟩) (by show w.heap.size ≤ z + 1; omega) _

end Go.Proofs.Yteopbobhphghhaa
