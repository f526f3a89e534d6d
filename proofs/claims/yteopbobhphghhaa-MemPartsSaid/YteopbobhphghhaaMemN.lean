/-
  mem.New: a memory of zeros.
-/
import Derived.Test.YteopbobhphghhaaMemX
namespace Go.Proofs.Yteopbobhphghhaa
open Go.RowKit

/-- What New's loop keeps. -/
structure MemR (w0 : World) (c : Conf) (b gw k : Nat) (sv : Value) (wr : World) : Prop where
  c0 : wr.cell? ⟨b, 0, none⟩ = some (.slice (some ⟨gw, 0, none⟩) (totalN c) (totalN c))
  c1 : wr.cell? ⟨b, 1, none⟩ = some sv
  row : At .u64 wr (some ⟨gw, 0, none⟩) (List.replicate (totalN c) 0)
  own : wr.ownsRow (b + 1) 3 1 sv k (ncs .i64 (basesTo c k))
  fz : ∀ o, wr.frozen? ⟨b, o, none⟩ = false
  fw : ∀ o, wr.frozen? ⟨gw, o, none⟩ = false
  lo : w0.heap.size ≤ gw
  gb : gw < b
  ext : Ext w0 wr
theorem MemR.go {w0 wr w' : World} {c : Conf} {b gw k : Nat} {sv : Value} (h : MemR w0 c b gw k sv wr) (hx : Ext wr w') : MemR w0 c b gw k sv w' :=
  ⟨hx.cell h.c0, hx.cell h.c1, h.row.ext hx, own_ext h.own hx, fun o => by rw [hx.frozen (p := ⟨b, o, none⟩) (show b < wr.heap.size from cell_lt h.c0)]; exact h.fz o,
    fun o => by rw [hx.frozen (p := ⟨gw, o, none⟩) (show gw < wr.heap.size from Nat.lt_trans h.gb (cell_lt h.c0))]; exact h.fw o, h.lo, h.gb, h.ext.trans hx⟩
theorem MemR.ne {w0 wr : World} {c : Conf} {b gw k x : Nat} {sv : Value} (h : MemR w0 c b gw k sv wr) (hx : x ≤ b) : some x ≠ sv.ownBlock := fun e => by
  have := (h.own.lt x e.symm).1; omega
/-- .. behind the append, ahead of the store. -/
theorem MemR.grown {w0 w3 W w4 : World} {c : Conf} {b gw k : Nat} {sv : Value} (h : MemR w0 c b gw k sv w3) (hx : Ext w3 W) (hg : W.grownBy w4 sv.ownBlock) :
    w4.cell? ⟨b, 1, none⟩ = some sv ∧ w4.frozen? ⟨b, 1, none⟩ = false := by
  have hl : b < w3.heap.size := cell_lt h.c0
  refine ⟨grow_cell hg hx h.c1 (h.ne (Nat.le_refl b)), ?_⟩
  rw [hg.frozen_far _ (Nat.lt_of_lt_of_le hl hx.size) (h.ne (Nat.le_refl b)), hx.frozen (p := ⟨b, 1, none⟩) hl]; exact h.fz 1
theorem MemR.push {w0 w3 W w4 : World} {c : Conf} {b gw k : Nat} {sv V : Value} (h : MemR w0 c b gw k sv w3) (hx : Ext w3 W) (hg : W.grownBy w4 sv.ownBlock) (hown : w4.ownsRow (b + 1) 3 1 V (k + 1) (ncs .i64 (basesTo c (k + 1)))) :
    MemR w0 c b gw (k + 1) V (w4.setCell ⟨b, 1, none⟩ V) := by
  have hl : b < w3.heap.size := cell_lt h.c0
  have hgl : gw < w3.heap.size := Nat.lt_trans h.gb hl
  have nb := h.ne (Nat.le_refl b)
  have ng := h.ne (x := gw) (Nat.le_of_lt h.gb)
  have hgb := h.gb
  have q0 := grow_cell hg hx h.c0 nb
  have q1 := (h.grown hx hg).1
  have far : ∀ i u, w3.cell? ⟨gw, i, none⟩ = some u → (w4.setCell ⟨b, 1, none⟩ V).cell? ⟨gw, i, none⟩ = some u := fun i u hc => by
    rw [cell_far _ _ _ _ (by show b ≠ gw; omega)]; exact grow_cell hg hx hc ng
  refine ⟨?_, World.cell?_setCell_same _ _ _ q1, fun i hi => ?_, own_setCell hown (p := ⟨b, 1, none⟩) (Nat.lt_succ_self b) _, fun o => ?_, fun o => ?_, h.lo, h.gb, ?_⟩
  · have := World.cell?_setCell_other w4 ⟨b, 1, none⟩ ⟨b, 0, none⟩ V (by intro e; cases e)
    rw [this]; exact q0
  · obtain ⟨b', o', e, hc⟩ := h.row i hi
    cases e
    exact ⟨gw, 0, rfl, far _ _ hc⟩
  · simp only [World.frozen?_setCell]
    rw [hg.frozen_far _ (Nat.lt_of_lt_of_le hl hx.size) nb, hx.frozen (p := ⟨b, o, none⟩) hl]; exact h.fz o
  · simp only [World.frozen?_setCell]
    rw [hg.frozen_far _ (Nat.lt_of_lt_of_le hgl hx.size) ng, hx.frozen (p := ⟨gw, o, none⟩) hgl]; exact h.fw o
  · exact ((h.ext.trans hx).grown hg fun k' e => by have := (h.own.lt k' e).1; have := h.lo; omega).setCell (p := ⟨b, 1, none⟩) (by show w0.heap.size ≤ b; have := h.lo; omega) V
theorem MemR.mem {w0 wr : World} {c : Conf} {b gw : Nat} {sv : Value} (h : MemR w0 c b gw (c.ts.length + 1) sv wr) (ho : KOk c) : ∃ gb, MemAt wr b gw gb c (List.replicate (totalN c) 0) ∧ w0.heap.size ≤ gb := by
  have hb := h.gb
  obtain ⟨gb, cap, e, h1, h2, _, h4, h5, h6, h7⟩ := own_ints (xs := basesTo c (c.ts.length + 1)) h.own (by omega)
  have c1 := h.c1
  rw [e] at c1
  have := ho.total_le
  refine ⟨gb, ⟨ho, by simp, ⟨totalN c, by simpa using h.c0, by simp, by unfold maxLen; omega⟩, ⟨cap, c1, h4, h5⟩, h.row, fun t ht => ?_, h.fw, by omega, by omega⟩, by have := h.lo; omega⟩
  obtain ⟨b', o', e', hc⟩ := h6 t (by rw [basesTo_len]; omega)
  cases e'
  rw [Nat.zero_add, nth_basesTo (by omega)] at hc
  exact hc

theorem make_mwords (n : Nat) (h : n ≤ 8388608) : ∀ W : World, (Instr.makeSlice 38 (.int .i64 (n : Int)) (.int .i64 (n : Int))).run Try.prog W = .ok (.slice (some ⟨W.heap.size, 0, none⟩) n n) (W.alloc (.cells (madeCells #[.int .u64 0] n) 34)) := by
  intro W
  exact run_make_row' 38 34 (.int .u64 0) 8 Try.underlying38 info_w64 rfl .i64 .i64 n (by omega) (by omega) W
theorem made_mwords {w : World} {n : Nat} {t : TypeId} {b : Nat} (hb : w.heap.size = b) : At .u64 (w.alloc (.cells (madeCells #[.int .u64 0] n) t)) (some ⟨b, 0, none⟩) (List.replicate n 0) := by
  subst hb
  refine At.mk fun i hi => ?_
  rw [List.length_replicate] at hi
  rw [Nat.zero_add, cell_newN, made_at hi]
  simp [nth, List.getD, hi]

/-- What New hands back. -/
def MemMade (c : Conf) (w : World) (e : Ending) (w' : World) : Prop :=
  ∃ b gw gb, e = .returned (.tuple #[.pointer (some ⟨b, 0, none⟩), .int .i64 0]) ∧ MemAt w' b gw gb c (List.replicate (totalN c) 0) ∧ w.heap.size ≤ b ∧ w.heap.size ≤ gw ∧ w.heap.size ≤ gb ∧ Ext w w'

set_option maxHeartbeats 2000000 in
theorem mem_New_no {ca ta : Option Addr} {cc tc : Nat} (c : Conf) {w : World} (hn : kcheck c ≠ 0) (h : CfgAt w ca ta cc tc c) :
    Calls Try.prog 11 #[.agg #[.slice ca c.cl.length cc, .int .i64 c.page, .slice ta c.ts.length tc, .int .i64 c.wk, .int .i64 c.gr, .int .i64 c.gens]] w fun e w' => e = .returned (.tuple #[.pointer none, .int .i64 2]) ∧ Ext w w' := by
  have h1 := Ext.refl (w.alloc (.cells #[.slice ca c.cl.length cc, .int .i64 c.page, .slice ta c.ts.length tc, .int .i64 c.wk, .int .i64 c.gr, .int .i64 c.gens] 25))
  have hx := (Ext.refl w).alloc (.cells #[.slice ca c.cl.length cc, .int .i64 c.page, .slice ta c.ts.length tc, .int .i64 c.wk, .int .i64 c.gr, .int .i64 c.gens] 25)
  have R := Lib.hid (show ktotal c = (0, 2) by unfold ktotal; rw [if_neg hn])
  have H := Lib.hid h
  clear h hn
  go_enter Try.func11, Try.ntmps11
  go_wp2_with fail
  refine (conf_Total c 0 2 R.out (H.out.ext (hx.trans h1))).mono ?_
  rintro e w1 ⟨rfl, h2⟩
  replace h1 := h1.trans h2
  clear h2
  go_wp2_with fail
  go_ret2
  exact ⟨rfl, hx.trans h1⟩

set_option maxRecDepth 100000 in
set_option maxHeartbeats 8000000 in
theorem mem_New {ca ta : Option Addr} {cc tc : Nat} (c : Conf) {w : World} (hk0 : kcheck c = 0) (h : CfgAt w ca ta cc tc c) :
    Calls Try.prog 11 #[.agg #[.slice ca c.cl.length cc, .int .i64 c.page, .slice ta c.ts.length tc, .int .i64 c.wk, .int .i64 c.gr, .int .i64 c.gens]] w (MemMade c w) := by
  obtain ⟨i0, hi0, hz0, hz1, hz2⟩ := info_parts info_int
  have h1 := Ext.refl (w.alloc (.cells #[.slice ca c.cl.length cc, .int .i64 c.page, .slice ta c.ts.length tc, .int .i64 c.wk, .int .i64 c.gr, .int .i64 c.gens] 25))
  have hx := (Ext.refl w).alloc (.cells #[.slice ca c.cl.length cc, .int .i64 c.page, .slice ta c.ts.length tc, .int .i64 c.wk, .int .i64 c.gr, .int .i64 c.gens] 25)
  have ho := kcheck_ok hk0
  have K0 := Lib.hid hk0
  have HO := Lib.hid ho
  have t1 := ho.head.2.2.1
  have t8 := ho.head.2.2.2.1
  have tl := ho.total_le
  have hmk := make_mwords (totalN c) tl
  have R := Lib.hid (show ktotal c = (((totalN c : Nat) : Int), 0) by
    have := ho.baseN_eq (t := c.ts.length) (Nat.le_refl _)
    unfold ktotal; rw [if_pos hk0]; unfold totalN; rw [this])
  have H := Lib.hid h
  clear h hk0 ho
  obtain ⟨T, hT⟩ : ∃ T, totalN c = T := ⟨_, rfl⟩
  have ET := Lib.hid hT
  rw [hT] at hmk R tl
  clear hT
  go_enter Try.func11, Try.ntmps11
  go_wp2_with fail
  refine (conf_Total c T 0 R.out (H.out.ext (hx.trans h1))).mono ?_
  rintro e w1 ⟨rfl, h2⟩
  replace h1 := h1.trans h2
  clear h2
  obtain ⟨b0, b1, b2, b3, b4, b5⟩ := box6 h1
  have hlt1 : w.heap.size < w1.heap.size := cell_lt b0
  go_wp2_with fail
  have PR0 : Hid (MemR (w.alloc (.cells #[.slice ca c.cl.length cc, .int .i64 c.page, .slice ta c.ts.length tc, .int .i64 c.wk, .int .i64 c.gr, .int .i64 c.gens] 25)) c (w1.heap.size + 1) w1.heap.size 0 (.slice none 0 0) ((w1.alloc (.cells (madeCells #[.int .u64 0] T) 34)).alloc (.cells #[.slice (some ⟨w1.heap.size, 0, none⟩) T T, .slice none 0 0] 58))) := Lib.hid (by
    have e : (w1.alloc (.cells (madeCells #[.int .u64 0] T) 34)).heap.size = w1.heap.size + 1 := by simp
    have x := (Ext.refl (w1.alloc (.cells (madeCells #[.int .u64 0] T) 34))).alloc (.cells #[.slice (some ⟨w1.heap.size, 0, none⟩) T T, .slice none 0 0] 58)
    refine ⟨?_, ?_, ?_, World.ownsRow_nil _ _ _ _, fun o => ?_, fun o => ?_, h1.size, Nat.lt_succ_self _, (h1.alloc _).alloc _⟩
    · rw [ET.out, ← e]; exact cell_newN _ _ _ 0
    · rw [← e]; exact cell_newN _ _ _ 1
    · rw [ET.out]; exact (made_mwords rfl).ext x
    · rw [← e]; exact World.frozen?_alloc_at _ _ _ _ rfl
    · rw [x.frozen (p := ⟨w1.heap.size, o, none⟩) (by simp)]; exact World.frozen?_alloc_at _ _ _ _ rfl)
  clear b0 b1 b2 b3 b4 b5 hlt1 h1 hmk
  generalize w1.heap.size = gw at *
  go_loopw [25] (fun kv wr => ∃ (k : Nat) (sv : Value), k ≤ c.ts.length ∧ kv = .int .i64 k ∧ Hid (MemR (w.alloc (.cells #[.slice ca c.cl.length cc, .int .i64 c.page, .slice ta c.ts.length tc, .int .i64 c.wk, .int .i64 c.gr, .int .i64 c.gens] 25)) c (gw + 1) gw k sv wr)) (fun kv _ => c.ts.length - (intOf kv).toNat)
  case atStart => exact ⟨0, _, Nat.zero_le _, rfl, PR0⟩
  case round =>
    clear PR0
    obtain ⟨k, sv, hk, rfl, PR⟩ := hrel
    have h1 := PR.out.ext
    by_cases hlt : k < c.ts.length
    · have KB := Lib.hid (show kbase c k = (((baseN c k : Nat) : Int), 0) by
        rw [kbase_yes (there_mk K0.out hlt HO.out.cl.pos), HO.out.baseN_eq (by omega)])
      have BS := Lib.hid (basesTo_succ c k)
      obtain ⟨b0, b1, b2, b3, b4, b5⟩ := box6 h1
      generalize baseN c k = B at *
      go_wp2_with fail
      clear b0 b1 b2 b3 b4 b5
      refine (conf_Base c k B 0 KB.out (H.out.ext (hx.trans h1))).mono ?_
      rintro e w2 ⟨rfl, h2⟩
      have PR2 := Lib.hid (PR.out.go h2)
      clear h2 h1
      have p1 := PR2.out.c1
      have hb2 : gw + 1 < w2.heap.size := cell_lt p1
      go_wp2_with (at_builtin; refine wpList_append_lies _ rfl (.tmp 38) (.tmp 40) 22 rfl (gw + 1 + 1) 3 i0 (.int .i64 0) 1 8 Try.underlying22 hi0 hz0 hz1 hz2 rfl (by decide) sv k (ncs .i64 (basesTo c k)) rfl (own_ext PR2.out.own ((Ext.refl _).alloc _)) ⟨w2.heap.size, 0, none⟩ 1 1 [.int .i64 B] rfl rfl (news1 _ _ _) (one1 rfl) (by omega) (by unfold maxLen; omega) (by omega) (by simp; omega) (w2.heap.size + 1) (by simp) ?_; intro gg cap w4 hown hgrow hat hlt4; obtain ⟨q1, qf⟩ := PR2.out.grown ((Ext.refl _).alloc _) hgrow; have PR4 := Lib.hid (PR2.out.push ((Ext.refl _).alloc _) hgrow (by rw [BS.out, ← ncs_snoc]; exact hown)); clear hown hgrow hat)
      go_roundw
      case rel => exact ⟨k + 1, _, by omega, by go_num, PR4⟩
      case measure => simp [intOf]; omega
    · obtain rfl : k = c.ts.length := by omega
      have BS := Lib.hid (show basesTo c (c.ts.length + 1) = basesTo c c.ts.length ++ [(T : Int)] by rw [basesTo_succ, ← ET.out]; rfl)
      have p1 := PR.out.c1
      have hb2 : gw + 1 < wr.heap.size := cell_lt p1
      clear h1
      go_wp2_with (at_builtin; refine wpList_append_lies _ rfl (.tmp 49) (.tmp 51) 22 rfl (gw + 1 + 1) 3 i0 (.int .i64 0) 1 8 Try.underlying22 hi0 hz0 hz1 hz2 rfl (by decide) sv c.ts.length (ncs .i64 (basesTo c c.ts.length)) rfl (own_ext PR.out.own ((Ext.refl _).alloc _)) ⟨wr.heap.size, 0, none⟩ 1 1 [.int .i64 T] rfl rfl (news1 _ _ _) (one1 rfl) (by omega) (by unfold maxLen; omega) (by omega) (by simp; omega) (wr.heap.size + 1) (by simp) ?_; intro gg cap w4 hown hgrow hat hlt4; obtain ⟨q1, qf⟩ := PR.out.grown ((Ext.refl _).alloc _) hgrow; have PR4 := Lib.hid (PR.out.push ((Ext.refl _).alloc _) hgrow (by rw [BS.out, ← ncs_snoc]; exact hown)); clear hown hgrow hat)
      go_ret2
      obtain ⟨gb, hm, hl⟩ := PR4.out.mem HO.out
      have lo := PR4.out.lo
      have sz : w.heap.size ≤ (w.alloc (.cells #[.slice ca c.cl.length cc, .int .i64 c.page, .slice ta c.ts.length tc, .int .i64 c.wk, .int .i64 c.gr, .int .i64 c.gens] 25)).heap.size := hx.size
      exact ⟨gw + 1, gw, gb, rfl, hm, by omega, by omega, by omega, hx.trans PR4.out.ext⟩

end Go.Proofs.Yteopbobhphghhaa
