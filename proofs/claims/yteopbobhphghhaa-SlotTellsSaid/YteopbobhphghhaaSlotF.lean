/-
  slot: At.
-/
import Derived.Test.YteopbobhphghhaaSlotE
namespace Go.Proofs.Yteopbobhphghhaa
open Go.RowKit Go.Shelf
attribute [local go_sem] Oper.semAt_some

set_option maxHeartbeats 1000000 in
theorem slot_addrs (pp : Option Addr) (i : Int) {w : World} :
    Calls Try.prog 66 #[.pointer pp, .int .i64 i] w fun e w' => e = .returned (.func (.func 83) #[] #[.pointer (some ⟨w.heap.size, 0, none⟩), .pointer (some ⟨w.heap.size + 1, 0, none⟩)]) ∧
      w' = (w.alloc (.cells #[.pointer pp] 62)).alloc (.cells #[.int .i64 i] 3) := by
  go_enter Try.func66, Try.ntmps66
  go_wp2_with fail
  go_ret
  exact ⟨rfl, rfl⟩

theorem wpIn_region_noPanic {F : Fence} {n : Nat} {P : Program} {id : Nat} {ops : Array Oper} {bb : Bool} {Q : Exit → Act → World → Prop} {a : Act} {w : World} (h : (Code.region id ops bb).wpIn F n P (NoPanic Q) a w) : (Code.region id ops bb).wpIn F n P Q a w :=
  wpIn_mono h (fun e a w h => NoPanic.imp e a w h)
theorem three_new (w : World) (v0 v1 v2 : Value) (t0 t1 t2 : TypeId) :
    (((w.alloc (.cells #[v0] t0)).alloc (.cells #[v1] t1)).alloc (.cells #[v2] t2)).cell? ⟨w.heap.size, 0, none⟩ = some v0 ∧
    ((((w.alloc (.cells #[v0] t0)).alloc (.cells #[v1] t1)).alloc (.cells #[v2] t2)).cell? ⟨w.heap.size + 1, 0, none⟩ = some v1 ∧ (((w.alloc (.cells #[v0] t0)).alloc (.cells #[v1] t1)).alloc (.cells #[v2] t2)).frozen? ⟨w.heap.size + 1, 0, none⟩ = false) ∧
    ((((w.alloc (.cells #[v0] t0)).alloc (.cells #[v1] t1)).alloc (.cells #[v2] t2)).cell? ⟨w.heap.size + 1 + 1, 0, none⟩ = some v2 ∧ (((w.alloc (.cells #[v0] t0)).alloc (.cells #[v1] t1)).alloc (.cells #[v2] t2)).frozen? ⟨w.heap.size + 1 + 1, 0, none⟩ = false) := by
  have c1 := cell_newN (w.alloc (.cells #[v0] t0)) #[v1] t1 0
  have c2 := cell_newN ((w.alloc (.cells #[v0] t0)).alloc (.cells #[v1] t1)) #[v2] t2 0
  have f1 : ((w.alloc (.cells #[v0] t0)).alloc (.cells #[v1] t1)).frozen? ⟨(w.alloc (.cells #[v0] t0)).heap.size, 0, none⟩ = false := World.frozen?_alloc_at _ _ _ _ rfl
  have f2 : (((w.alloc (.cells #[v0] t0)).alloc (.cells #[v1] t1)).alloc (.cells #[v2] t2)).frozen? ⟨((w.alloc (.cells #[v0] t0)).alloc (.cells #[v1] t1)).heap.size, 0, none⟩ = false := World.frozen?_alloc_at _ _ _ _ rfl
  simp only [World.size_alloc] at c1 c2 f1 f2
  have e := (Ext.refl ((w.alloc (.cells #[v0] t0)).alloc (.cells #[v1] t1))).alloc (.cells #[v2] t2)
  exact ⟨(((Ext.refl _).alloc _).alloc _).cell (cell_newN w _ _ 0), ⟨e.cell c1, e.frozenAt c1 f1⟩, c2, f2⟩

theorem KC_b {n₀ : Nat} {w : World} (hn : n₀ ≤ w.heap.size) (W : World) (l : Nat) (o o' : Obj) (hl : w.heap.size ≤ l) (h : W.heap[l]? = some o) (hc : o.isCells = false) (hw : o.isWalk = false) : KC n₀ W (W.putObj l o') := by
  refine ⟨belowK_b hn W l o o' hl h hc hw, fun k o2 hk h2 => ?_⟩
  have hne : k ≠ l := by rintro rfl; rw [h] at hk; cases hk; rw [hc] at h2; cases h2
  have hlt : k < W.heap.size := (Array.getElem?_eq_some_iff.1 hk).1
  have hg := grownBy_putObj' W l o'
  rw [hg.block k hlt (by simpa using hne)]; exact hk

theorem addrs_stops (n : Nat) (hn : 1 ≤ n) (n₀ Bp Bg b gp k N : Nat) {c : Conf} {t : Nat} {p : Int} (hk : AtPage c t p k) (hN : manyP c t p k = N) (hBp : Bp < n₀) (hBg : Bg < n₀) (hb : b < n₀) (w : World) (hn0 : n₀ ≤ w.heap.size)
    (cp : w.cell? ⟨Bp, 0, none⟩ = some (.pointer (some ⟨b, 0, none⟩))) (cg : w.cell? ⟨Bg, 0, none⟩ = some (.int .i64 p)) (hP : PlanAt w b gp c t) :
    SeqStopsK Fence.wide n Try.prog 83 #[.pointer (some ⟨Bp, 0, none⟩), .pointer (some ⟨Bg, 0, none⟩)] encP (KC n₀) (fun ys => ys = upto (pitem c t p k) N) (fun pre => ∃ j, j ≤ N ∧ pre = upto (pitem c t p k) j) N w := fun l J Jx W hW hJ _ hY h0 => by
  have hx : Ext w W := hW
  exact addrs1_in n hn l n₀ Bp Bg b gp k N hk hN hBp hBg hb J Jx (fun pre V V' h hz => hJ pre V V' none h ⟨Below.os hz, Below.tape hz, Below.output hz, Below.size hz, fun k hk _ => Below.block hz k hk⟩ (fun r e => by cases e)) hY W (Nat.le_trans hn0 hx.size) (hx.cell cp) (hx.cell cg) (hP.ext hx) h0

/-- What At tells of an address. -/
def IsAt (c : Conf) (t : Nat) (p : Int) (k N : Nat) (addr r q : Int) : Prop :=
  (∃ j : Nat, j < N ∧ p * c.page + j * nth c.cl k = addr ∧ r = firstP c t p k + j ∧ q = 0) ∨ ((∀ j : Nat, j < N → p * c.page + j * nth c.cl k ≠ addr) ∧ r = 0 ∧ q = 7)

set_option maxRecDepth 100000 in
set_option maxHeartbeats 16000000 in
theorem slot_At {b gp k N : Nat} {c : Conf} {t : Nat} {p addr r q : Int} {w : World} (h : PlanAt w b gp c t) (h0 : 0 ≤ addr) (h1 : addr < sG c t c.cl.length * c.page) (hp : addr / c.page = p) (hk : AtPage c t p k) (hN : manyP c t p k = N) (hr : IsAt c t p k N addr r q) :
    Calls Try.prog 26 #[.pointer (some ⟨b, 0, none⟩), .int .i64 addr] w fun e w' => e = .returned (.tuple #[.int .i64 r, .int .i64 q]) ∧ Ext w w' := by
  have H := Lib.hid h; have HK := Lib.hid hk; have HN := Lib.hid hN; have HR := Lib.hid hr
  have m8 := h.ok.cl.most
  have pg := h.pg2
  obtain ⟨pg0, pg1⟩ := pg
  have gl := h.ok.sG_le h.ti (Nat.le_refl _)
  have gq := mul_bd (a := sG c t c.cl.length) (b := c.page) (A := 16384) (B := 64) (by omega) (by omega) (by omega) pg1
  have t0 : decide (addr < 0) = false := by simp; omega
  have t1 : decide (sG c t c.cl.length * c.page ≤ addr) = false := by simp; omega
  have a1 : addr ≤ 1048576 := by omega
  have hb : b < w.heap.size := cell_lt h.page
  have h3 := h.page
  have pz : ¬ c.page = 0 := by omega
  have HP := Lib.hid hp
  clear h hk hN hr gl gq h1
  refine (callsIn_wide (n := 3)).1 ?_
  refine callsIn_of_wp_marks Try.func26 rfl trivial ?_ rfl
  simp only [Try.ntmps26, List.size_toArray, List.length_cons, List.length_nil, Nat.reduceAdd, Nat.reduceSub, Array.replicate_succ, Array.replicate_zero, List.push_toArray, List.append_toArray, List.nil_append, List.cons_append]
  obtain ⟨z, hz⟩ : ∃ z, w.heap.size = z := ⟨_, rfl⟩
  obtain ⟨W0, hW0⟩ : ∃ W0, ((w.alloc (.cells #[.int .i64 addr] 3)).alloc (.cells #[.int .i64 0] 3)).alloc (.cells #[.int .i64 0] 31) = W0 := ⟨_, rfl⟩
  have x0 : Ext w W0 := by rw [← hW0]; exact (((Ext.refl _).alloc _).alloc _).alloc _
  obtain ⟨k0, k1, k2⟩ := (by rw [← hW0, ← hz]; exact three_new w _ _ _ _ _ _ : W0.cell? ⟨z, 0, none⟩ = some (.int .i64 addr) ∧ (W0.cell? ⟨z + 1, 0, none⟩ = some (.int .i64 0) ∧ W0.frozen? ⟨z + 1, 0, none⟩ = false) ∧ (W0.cell? ⟨z + 1 + 1, 0, none⟩ = some (.int .i64 0) ∧ W0.frozen? ⟨z + 1 + 1, 0, none⟩ = false))
  have sz : W0.heap.size = z + 3 := by rw [← hW0, ← hz]; simp
  have HZ := Lib.hid hz
  gi_wp2_with (first | (refine ⟨trivial, ?_⟩; gi_at_call 65; refine (callsIn_wide.2 (slot_none (H.out.ext x0))).mono ?_; rintro e w' ⟨rfl, rfl⟩))
  have xd : Ext w W0.drew := x0.drew
  have hq : IntKind.i64.wrap (addr.tdiv c.page) = p := (IntWalk.i64_quo addr c.page (by omega)).trans HP.out
  refine wpIn_region_noPanic ?_
  gi_region_with (refine ⟨trivial, ?_⟩; gi_at_call 32; refine (callsIn_wide.2 (slot_Words (H.out.ext xd))).mono ?_; rintro e W1 ⟨rfl, x1⟩; have c0 := x1.cell ((Ext.refl _).drew.cell k0); have c1 := x1.cell ((Ext.refl _).drew.cell k1.1); have c2 := x1.cell ((Ext.refl _).drew.cell k2.1); have f1 := x1.frozenAt ((Ext.refl _).drew.cell k1.1) ((Ext.refl _).drew.frozenAt k1.1 k1.2); have f2 := x1.frozenAt ((Ext.refl _).drew.cell k2.1) ((Ext.refl _).drew.frozenAt k2.1 k2.2); have pg3 := (xd.trans x1).cell h3)
  all_goals
    refine NoPanic.normal ?_
    gi_wp2
    have X1 := Lib.hid (xd.trans x1)
    have c0' := (Ext.refl _).drew.cell c0; have pg' := (Ext.refl _).drew.cell pg3
    refine wpIn_region_noPanic ?_
    gi_region_with (refine ⟨trivial, ?_⟩; gi_at_call 66; refine (callsIn_wide.2 (slot_addrs _ _)).mono ?_; rintro e w' ⟨rfl, rfl⟩)
    all_goals
      refine NoPanic.normal ?_
      gi_wp2
      obtain ⟨y, hy⟩ : ∃ y, W1.heap.size = y := ⟨_, rfl⟩
      obtain ⟨W5, hW5⟩ : ∃ V, ((W1.alloc (.cells #[.pointer (some ⟨b, 0, none⟩)] 62)).alloc (.cells #[.int .i64 p] 3)).drew = V := ⟨_, rfl⟩
      have X5 : Ext W1 W5 := by rw [← hW5]; exact (((Ext.refl _).alloc _).alloc _).drew
      have sz5 : W5.heap.size = y + 2 := by rw [← hW5, ← hy]; simp
      have cy0 : W5.cell? ⟨y, 0, none⟩ = some (.pointer (some ⟨b, 0, none⟩)) := by rw [← hW5, ← hy]; exact (((Ext.refl _).alloc _).drew).cell (cell_newN W1 _ _ 0)
      have cy1 : W5.cell? ⟨y + 1, 0, none⟩ = some (.int .i64 p) := by
        have := cell_newN (W1.alloc (.cells #[.pointer (some ⟨b, 0, none⟩)] 62)) #[.int .i64 p] 3 0
        simp only [World.size_alloc, hy] at this
        rw [← hW5]; exact (Ext.refl _).drew.cell this
      have d0 := X5.cell c0; have d1 := X5.cell c1; have d2 := X5.cell c2; have g1 := X5.frozenAt c1 f1; have g2 := X5.frozenAt c2 f2
      have XW := Lib.hid (X1.out.trans X5)
      have hzy : z + 3 ≤ y := by have := x1.size; have : W0.drew.heap.size = W0.heap.size := rfl; omega
      have hbz : b < z := by omega
      have ST := Lib.hid (addrs_stops 2 (by decide) W5.heap.size y (y + 1) b gp k N HK.out HN.out (by omega) (by omega) (by omega) W5 (Nat.le_refl _) cy0 cy1 (H.out.ext XW.out))
      rw [hW5, hy]
      clear cy0 cy1 hW5 c0 c1 c2 f1 f2 pg3 c0' pg' x1 xd x0 k0 k1 k2 sz
      refine wpIn_rangeFunc_ownF rfl (by omega) (gf := 83) (lb := #[.pointer (some ⟨y, 0, none⟩), .pointer (some ⟨y + 1, 0, none⟩)]) rfl trivial (enters_of Try.func83 (by kernel_rfl) rfl)
        ST.out KC.trans (KC_b (Nat.le_refl _)) (Below.refl _ _) (fun _ => rfl)
        (fun pre W => ((pre = upto (pitem c t p k) pre.length → ∀ j, j < pre.length → (pitem c t p k j).2 ≠ addr) ∧ W.cell? ⟨z, 0, none⟩ = some (.int .i64 addr) ∧ W.cell? ⟨z + 1, 0, none⟩ = some (.int .i64 0) ∧ W.frozen? ⟨z + 1, 0, none⟩ = false ∧ W.cell? ⟨z + 1 + 1, 0, none⟩ = some (.int .i64 0) ∧ W.frozen? ⟨z + 1 + 1, 0, none⟩ = false) ∧ Below w.heap.size w W)
        (fun cc pre W => (cc = .ret ∧ ∃ yv : Int, W.cell? ⟨z + 1, 0, none⟩ = some (.int .i64 yv) ∧ W.cell? ⟨z + 1 + 1, 0, none⟩ = some (.int .i64 0) ∧ (∀ j, pre = upto (pitem c t p k) j → j ≤ N → yv = r ∧ q = 0)) ∧ Below w.heap.size w W)
        (OwnFrom.and (Own.from (fun s A B row hs hg hr => ⟨hs.1, cell_kept hs.2.1 hg hr, cell_kept hs.2.2.1 hg hr, (frozen_kept hs.2.2.1 hg hr).trans hs.2.2.2.1, cell_kept hs.2.2.2.2.1 hg hr, (frozen_kept hs.2.2.2.2.1 hg hr).trans hs.2.2.2.2.2⟩) _) (ownFrom_below (Nat.le_refl _) XW.out.size))
        (fun cc => OwnFrom.and (Own.from (fun s A B row hs hg hr => by obtain ⟨h1, yv, h2, h3, h4⟩ := hs; exact ⟨h1, yv, cell_kept h2 hg hr, cell_kept h3 hg hr, h4⟩) _) (ownFrom_below (Nat.le_refl _) XW.out.size))
        ⟨⟨fun _ j hj => absurd hj (by simp), d0, d1, g1, d2, g2⟩, XW.out⟩
        (fun x => { tmps := #[.pointer (some ⟨b, 0, none⟩), .int .i64 addr, undef, .pointer (some ⟨z, 0, none⟩), .pointer (some ⟨z + 1, 0, none⟩), .pointer (some ⟨z + 1 + 1, 0, none⟩), .int .i64 x.1, .int .i64 x.2, .bool false, .pointer (some ⟨b, 0, none⟩), .bool false, .bool false, .int .i64 addr, .bool false, .bool false, .int .i64 addr, .pointer (some ⟨b, 0, none⟩), .int .i64 (sG c t c.cl.length * c.page), .bool false, .bool false, .pointer (some ⟨b, 0, none⟩), .int .i64 addr, .pointer (some ⟨b, 0, none⟩), .pointer (some ⟨b, 0, none⟩), .pointer (some ⟨b, 3, none⟩), .int .i64 c.page, .int .i64 p, .func (.func 83) #[] #[.pointer (some ⟨y, 0, none⟩), .pointer (some ⟨y + 1, 0, none⟩)], .int .i64 x.1, .int .i64 x.2, undef, undef, undef, undef], defers := [] }) ?assign ?body ?done ?stop
      case assign =>
        intro l x W K hK
        simp only [encP]
        gi_wp2
        exact hK
      case body =>
        rintro l pre x W ⟨⟨hpure, c0, c1, f1, c2, f2⟩, hB⟩ hlen
        obtain ⟨sl, ad⟩ := x
        have HPU := Lib.hid hpure; have HB := Lib.hid hB
        clear hpure hB
        by_cases he : ad = addr
        · have te : (ad == addr) = true := by simpa using he
          gi_wp2
          have n12 : (⟨z + 1, 0, none⟩ : Addr) ≠ ⟨z + 1 + 1, 0, none⟩ := by intro e; have := congrArg Addr.block e; simp at this
          refine ⟨(KeepsOthers.setCell _ _ _).trans (KeepsOthers.setCell _ _ _), ⟨rfl, sl, ?_, ?_, fun j e hj => ?_⟩, (HB.out.setCell (p := ⟨z + 1, 0, none⟩) (by have := HZ.out; simp; omega) _).setCell (p := ⟨z + 1 + 1, 0, none⟩) (by have := HZ.out; simp; omega) _⟩
          · rw [World.cell?_setCell_other _ _ _ _ n12.symm]; exact World.cell?_setCell_same _ _ _ c1
          · exact World.cell?_setCell_same (u := .int .i64 0) _ _ _ (by rw [World.cell?_setCell_other _ _ _ _ n12]; exact c2)
          · have hlj : j = pre.length + 1 := by have := congrArg List.length e; rw [upto_length] at this; simpa using this.symm
            subst hlj
            obtain ⟨e1, e2⟩ := upto_snoc (f := pitem c t p k) (pre := pre) (x := (sl, ad)) (by rw [e, upto_length])
            rcases HR.out with ⟨j', h1, h2, h3, h4⟩ | ⟨h1, _⟩
            · have hj2 := congrArg Prod.fst e2; have hj3 := congrArg Prod.snd e2
              refine ⟨?_, h4⟩
              have hjj : pre.length = j' := by
                have e5 : p * c.page + (pre.length : Int) * nth c.cl k = p * c.page + (j' : Int) * nth c.cl k := by rw [h2]; exact hj3.symm.trans he
                have s2 := (H.out.ok.bounds H.out.ti HK.out.lt).c2
                have e6 : (pre.length : Int) * nth c.cl k = (j' : Int) * nth c.cl k := by omega
                have := Int.eq_of_mul_eq_mul_right (show nth c.cl k ≠ 0 by omega) e6
                omega
              rw [h3, ← hjj]; exact hj2
            · exact absurd ((congrArg Prod.snd e2).symm.trans he) (h1 _ (by omega))
        · have te : (ad == addr) = false := by simpa using he
          gi_wp2
          refine ⟨KeepsOthers.refl _, KC.refl _ _, ⟨fun e j hj => ?_, c0, c1, f1, c2, f2⟩, HB.out⟩
          obtain ⟨e1, e2⟩ := upto_snoc e
          rw [List.length_append, List.length_singleton] at hj
          rcases Nat.lt_or_ge j pre.length with cj | cj
          · exact HPU.out e1 j cj
          · obtain rfl : j = pre.length := by omega
            rw [← e2]; exact he
      case done =>
        rintro D ys W hD rfl ⟨⟨hpure, c0, c1, f1, c2, f2⟩, hB⟩ hK
        have n12 : (⟨z + 1, 0, none⟩ : Addr) ≠ ⟨z + 1 + 1, 0, none⟩ := by intro e; have := congrArg Addr.block e; simp at this
        have hno := hpure (by rw [upto_length])
        rw [upto_length] at hno
        have hend : r = 0 ∧ q = 7 := by
          rcases HR.out with ⟨j', h1, h2, _⟩ | ⟨_, h3⟩
          · exact absurd h2 (hno j' h1)
          · exact h3
        have EN := Lib.hid hend
        have HB := Lib.hid hB
        have HK' := Lib.hid hK
        clear hpure hno hend hB hK
        gi_wp2
        have hK' := ((KeepsOthers.setCell W ⟨z + 1, 0, none⟩ (.int .i64 0)).trans (KeepsOthers.setCell _ ⟨z + 1 + 1, 0, none⟩ (.int .i64 7))).same D _ HK'.out rfl
        refine ⟨by simp, .inl ⟨_, _, rfl, run_takeDeferred hK', ?_⟩⟩
        have d1 : ((W.setCell ⟨z + 1, 0, none⟩ (.int .i64 0)).setCell ⟨z + 1 + 1, 0, none⟩ (.int .i64 7)).cell? ⟨z + 1, 0, none⟩ = some (.int .i64 0) := by
          rw [World.cell?_setCell_other _ _ _ _ n12.symm]; exact World.cell?_setCell_same _ _ _ c1
        have d2 : ((W.setCell ⟨z + 1, 0, none⟩ (.int .i64 0)).setCell ⟨z + 1 + 1, 0, none⟩ (.int .i64 7)).cell? ⟨z + 1 + 1, 0, none⟩ = some (.int .i64 7) :=
          World.cell?_setCell_same (u := .int .i64 0) _ _ _ (by rw [World.cell?_setCell_other _ _ _ _ n12]; exact c2)
        have e1 := cell_kept d1 (grownBy_putObj' _ D (.deferred none)) (fun r e => by cases e; exact ⟨_, hK', rfl⟩)
        have e2 := cell_kept d2 (grownBy_putObj' _ D (.deferred none)) (fun r e => by cases e; exact ⟨_, hK', rfl⟩)
        refine ⟨.tuple #[.int .i64 0, .int .i64 7], ?_, by rw [EN.out.1, EN.out.2], ((HB.out.setCell (p := ⟨z + 1, 0, none⟩) (by have := HZ.out; simp; omega) _).setCell (p := ⟨z + 1 + 1, 0, none⟩) (by have := HZ.out; simp; omega) _).trans (belowK_b (w := w) (Nat.le_refl _) _ D _ _ (Nat.le_trans XW.out.size hD) hK' rfl rfl)⟩
        simp [results, Try.f26, go_sem, e1, e2]
      case stop =>
        rintro D cc pre W hD ⟨m, hm, rfl⟩ ⟨⟨rfl, yv, c1, c2, hyq⟩, hB⟩ hK
        obtain ⟨rfl, rfl⟩ := hyq m rfl hm
        gi_wp2
        refine ⟨by simp, .inl ⟨_, _, rfl, run_takeDeferred hK, ?_⟩⟩
        have e1 := cell_kept c1 (grownBy_putObj' _ D (.deferred none)) (fun r e => by cases e; exact ⟨_, hK, rfl⟩)
        have e2 := cell_kept c2 (grownBy_putObj' _ D (.deferred none)) (fun r e => by cases e; exact ⟨_, hK, rfl⟩)
        refine ⟨.tuple #[.int .i64 yv, .int .i64 0], ?_, rfl, hB.trans (belowK_b (w := w) (Nat.le_refl _) W D _ _ (Nat.le_trans XW.out.size hD) hK rfl rfl)⟩
        simp [results, Try.f26, go_sem, e1, e2]

end Go.Proofs.Yteopbobhphghhaa
