/-
  Merged texts: Ref09o, Body4.
-/
import Derived.Test.YtnbngcagnchkdaaDoorQ07
import Derived.Test.YtnbngcagnchkdaaDoorQ06
set_option linter.unusedVariables false
set_option linter.unusedSimpArgs false
/-! commonageref09: Has, Of, At. -/
namespace Go.Proofs.YtnbngcagnchkdaaDoor
open Go.RowKit

variable {lb lc fb fc mb mc cc t : Nat} {ca : Option Addr} {c : Conf} {w : World}
theorem KOk.nS_le (h : KOk c) (ht : t < c.ts.length) : nS c t ≤ 16384 := by
  have h1 := h.nS_eq ht
  have h2 := (h.sS_le ht (k := c.cl.length) (Nat.le_refl _)).2
  have h3 := h.cl.most
  omega

/-- How many slots of class k are among the first i ones; the first one of them. -/
def cntK (c : Conf) (t k i : Nat) : Int := if (i : Int) ≤ sS c t k then 0 else if (i : Int) ≤ sS c t (k + 1) then i - sS c t k else slotsOf c t k
def fstK (c : Conf) (t k i : Nat) : Int := if (i : Int) ≤ sS c t k then 0 else sS c t k
theorem kOf_eq {k i : Nat} (ho : KOk c) (ht : t < c.ts.length) (hk : k < c.cl.length) (hi : i < nS c t) : kOf c t (i : Int) = k ↔ (sS c t k ≤ (i : Int) ∧ (i : Int) < sS c t (k + 1)) := by
  have hn := ho.nS_eq ht
  obtain ⟨j, hj⟩ := atClass_find (c := c) (t := t) (s := (i : Int)) (Int.natCast_nonneg _) (by omega)
  rw [hj.kOf ho ht]
  constructor
  · rintro rfl; exact ⟨hj.lo, hj.hi⟩
  · intro h; exact hj.uniq ho ht ⟨hk, h.1, h.2⟩

/-- The slot at an address. -/
def adrOf (c : Conf) (t : Nat) (s : Nat) : Int := addrOf c t (s : Int) (kOf c t (s : Int))
def AtR (c : Conf) (t : Nat) (a r q : Int) : Prop := (q = 0 ∧ ∃ s : Nat, r = s ∧ s < nS c t ∧ adrOf c t s = a) ∨ (q = 7 ∧ r = 0 ∧ ∀ s : Nat, s < nS c t → adrOf c t s ≠ a)
theorem slot_at (ho : KOk c) (ht : t < c.ts.length) {s : Nat} (h : s < nS c t) : AtClass c t (s : Int) (kOf c t (s : Int)) := by
  have hn := ho.nS_eq ht
  obtain ⟨j, hj⟩ := atClass_find (c := c) (t := t) (s := (s : Int)) (Int.natCast_nonneg _) (by omega)
  rw [hj.kOf ho ht]; exact hj
theorem adr_lt (ho : KOk c) (ht : t < c.ts.length) {s s' : Nat} (h : s < s') (h' : s' < nS c t) : adrOf c t s < adrOf c t s' := by
  have h1 := slot_at ho ht (s := s) (by omega)
  have h2 := slot_at ho ht h'
  have := slots_apart ho ht h1 h2 (by omega)
  have := (ho.bounds ht h1.lt).c2
  unfold adrOf; omega
theorem adr_inj (ho : KOk c) (ht : t < c.ts.length) {s s' : Nat} (h : s < nS c t) (h' : s' < nS c t) (e : adrOf c t s = adrOf c t s') : s = s' := by
  rcases Nat.lt_trichotomy s s' with g | g | g
  · have := adr_lt ho ht g h'; omega
  · exact g
  · have := adr_lt ho ht g h; omega

end Go.Proofs.YtnbngcagnchkdaaDoor

/-! body: load, Ref, Word; store, SetRef, SetWord. -/
namespace Go.Proofs.YtnbngcagnchkdaaDoor
open Go.RowKit
variable {w w' : World} {bb mb gw gb pb gp : Nat} {c : Conf} {t : Nat} {ws ws' : List Int} {s i k u x : Int} {h : Hd}

theorem enters_bload1 : Enters Tryd.prog 66 := Enters.mk Tryd.func66 (by kernel_rfl) rfl
theorem enters_bstore1 : Enters Tryd.prog 70 := Enters.mk Tryd.func70 (by kernel_rfl) rfl

set_option maxHeartbeats 4000000 in
theorem body_load1 {a : Int} {p y : Nat} {v0 : Value} (h : BodyAt w bb mb gw gb pb gp c t ws) (hr : loadR c ws t a = (u, 0)) (ha : is64 a)
    (c0 : w.cell? ⟨p, 0, none⟩ = some (.pointer (some ⟨bb, 0, none⟩))) (c1 : w.cell? ⟨y, 0, none⟩ = some v0) (f1 : w.frozen? ⟨y, 0, none⟩ = false) :
    Calls Tryd.prog 66 #[.int .i64 a, .pointer (some ⟨p, 0, none⟩), .pointer (some ⟨y, 0, none⟩)] w fun e w' => e = .returned (.tuple #[]) ∧ Chg (fun k => k = y) w w' ∧ w'.cell? ⟨y, 0, none⟩ = some (.int .u64 u) ∧ w'.frozen? ⟨y, 0, none⟩ = false := by
  have H := Lib.hid h
  have HA := Lib.hid ha; have HR := Lib.hid hr
  have C1 := Lib.hid c1; have F1 := Lib.hid f1
  clear h ha hr c1 f1
  go_enter Tryd.func66, Tryd.ntmps66
  go_upto_region 0 with fail
  have b0 := H.out.box.c 0 _ rfl; have b1 := H.out.box.c 1 _ rfl; have b2 := H.out.box.c 2 _ rfl
  go_region_with ((go_at_call 32; refine (mem_Load u 0 (H.out.mem.ext ?_) HA.out HR.out).mono ?_; (repeat (first | with_reducible exact Ext.refl _ | with_reducible refine Ext.drew ?_ | with_reducible refine Ext.drewN ?_ _ | with_reducible refine Ext.alloc ?_ _)); rintro e w2 ⟨rfl, x2⟩; have d1 := x2.cell (((Ext.refl w).drew).cell C1.out); have g1 := x2.frozenAt (((Ext.refl w).drew).cell C1.out) (((Ext.refl w).drew).frozenAt C1.out F1.out)))
  all_goals
    go_wp2_with fail
    go_end0
    exact ⟨rfl, Chg.setCell (P := fun k => k = y) (p := ⟨y, 0, none⟩) (Chg.of_ext (((Ext.refl w).drew).trans x2)) (.inl rfl) _, World.cell?_setCell_same _ _ _ d1, by simpa using g1⟩

/-- Two boxes of one cell each. -/
theorem two_new (w : World) (v0 v1 : Value) (t0 t1 : TypeId) {z : Nat} (hz : w.heap.size = z) : ∃ W, (w.alloc (.cells #[v0] t0)).alloc (.cells #[v1] t1) = W ∧
    (W.cell? ⟨z, 0, none⟩ = some v0 ∧ W.frozen? ⟨z, 0, none⟩ = false) ∧ (W.cell? ⟨z + 1, 0, none⟩ = some v1 ∧ W.frozen? ⟨z + 1, 0, none⟩ = false) ∧ Ext w W :=
  ⟨_, rfl, box_up (box_new w v0 t0 hz) ((Ext.refl _).alloc _), box_new _ v1 t1 (by simp [hz]), ((Ext.refl w).alloc _).alloc _⟩

set_option maxHeartbeats 4000000 in
theorem body_load (ref : Bool) (h : BodyAt w bb mb gw gb pb gp c t ws) (hr : bLoad c t ws s i ref = (u, k)) :
    Calls Tryd.prog 35 #[.pointer (some ⟨bb, 0, none⟩), .bool ref, .int .i64 s, .int .i64 i] w fun e w' => e = .returned (.tuple #[.int .u64 u, .int .i64 k]) ∧ Ext w w' := by
  have hmf : ∀ (fn : Fn) (first cap : Array Value) (w : World), (Instr.makeFunc fn first cap).run Tryd.prog w = .ok (.func fn first cap) w := fun _ _ _ _ => rfl
  obtain ⟨z, hz⟩ : ∃ z, w.heap.size = z := ⟨_, rfl⟩
  obtain ⟨W0, hW0, ⟨b0, g0⟩, ⟨b1, g1⟩, X0⟩ := two_new w (.pointer (some ⟨bb, 0, none⟩)) (.int .u64 0) 31 26 hz
  have ZL : w.heap.size ≤ z + 1 := by omega
  obtain ⟨q, hq⟩ : ∃ q, bField c t ws s i ref = q := ⟨_, rfl⟩
  have HQ := Lib.hid hq
  unfold bLoad at hr
  rw [hq] at hr
  have CA := Lib.hid (body_at (cs := #[.pointer (some ⟨z, 0, none⟩), .pointer (some ⟨z + 1, 0, none⟩)]) (S := fun W w' => Chg (fun k => k = z + 1) W w' ∧ w'.cell? ⟨z + 1, 0, none⟩ = some (.int .u64 (bwd c t ws s (1 + i.toNat))) ∧ w'.frozen? ⟨z + 1, 0, none⟩ = false) ref (h.ext X0) enters_bload1 hq (fun h0 W hx => by
    obtain ⟨hi, j, hji, hj⟩ := bField_in (hq.trans h0)
    have sb := slotB h.ko h.ti hi
    have a64 := sb.is64 h.ko h.ti
    have s64 := sb.s64
    have L := sb.load (ws := ws) h.ti (i := 1 + j) (by omega)
    rw [show bAd c t s + ((1 + j : Nat) : Int) = bAd c t s + 1 + i by omega, show 1 + j = 1 + i.toNat by omega] at L
    exact (body_load1 (p := z) (y := z + 1) (h.ext (X0.trans hx)) L ⟨by omega, by omega⟩ (hx.cell b0) (hx.cell b1) (hx.frozenAt b1 g1))))
  have B1 := Lib.hid b1; have G1 := Lib.hid g1; have XH := Lib.hid X0; have HZ := Lib.hid ZL
  have bz := cell_lt b0
  clear h hq g0 b1 g1 X0 ZL
  go_enter Tryd.func35, Tryd.ntmps35
  go_wp2_with fail
  clear hW0 hz b0 bz
  refine CA.out.mono ?_
  rintro e w1 ⟨rfl, W1, x1, h1⟩
  by_cases h0 : q = 0
  · rcases h1 with ⟨_, hc, c1, f1⟩ | ⟨hn, _⟩
    · subst h0
      rw [if_pos rfl] at hr
      obtain ⟨rfl, rfl⟩ : bwd c t ws s (1 + i.toNat) = u ∧ 0 = k := by injection hr with e1 e2; exact ⟨e1, e2⟩
      have C := Lib.hid hc
      have X1 := Lib.hid x1
      clear hr hc x1
      have l1 := cell_lt c1
      go_wp2_with fail
      have d3 := World.cell?_setCell_same w1 ⟨z + 1, 0, none⟩ (.int .u64 (bwd c t ws s (1 + i.toNat))) c1
      refine bodyPost_ret (v := .tuple #[.int .u64 (bwd c t ws s (1 + i.toNat)), .int .i64 0]) (by simp [results, Tryd.results35, go_sem, d3]) rfl ⟨rfl, ?_⟩
      exact (Chg.setCell (P := fun k => k = z + 1) (p := ⟨z + 1, 0, none⟩) C.out (.inl rfl) _).over (XH.out.trans X1.out) fun k hk => by subst hk; exact HZ.out
    · exact absurd h0 hn
  · rcases h1 with ⟨hn, _⟩ | ⟨_, rfl⟩
    · exact absurd hn h0
    · rw [if_neg h0] at hr
      obtain ⟨rfl, rfl⟩ : 0 = u ∧ q = k := by injection hr with e1 e2; exact ⟨e1, e2⟩
      have c1 := x1.cell B1.out; have f1 := x1.frozenAt B1.out G1.out
      have X1 := Lib.hid x1
      clear hr x1
      have l1 := cell_lt c1
      go_wp2_with fail
      have d3 := World.cell?_setCell_same W1 ⟨z + 1, 0, none⟩ (.int .u64 0) c1
      refine bodyPost_ret (v := .tuple #[.int .u64 0, .int .i64 q]) (by simp [results, Tryd.results35, go_sem, d3]) rfl ⟨rfl, ?_⟩
      exact (XH.out.trans X1.out).setCell (p := ⟨z + 1, 0, none⟩) HZ.out _

theorem body_Word (h : BodyAt w bb mb gw gb pb gp c t ws) (hr : bWord c t ws s i = (u, k)) :
    Calls Tryd.prog 22 #[.pointer (some ⟨bb, 0, none⟩), .int .i64 s, .int .i64 i] w fun e w' => e = .returned (.tuple #[.int .u64 u, .int .i64 k]) ∧ Ext w w' := by
  have H := Lib.hid h; have HR := Lib.hid hr
  clear h hr
  go_enter Tryd.func22, Tryd.ntmps22
  go_wp2_with fail
  refine (body_load false H.out HR.out).mono ?_
  rintro e w1 ⟨rfl, x1⟩
  go_wp2_with fail
  go_ret2
  exact ⟨rfl, x1⟩

set_option maxHeartbeats 4000000 in
theorem body_Ref (h : BodyAt w bb mb gw gb pb gp c t ws) (hr : bRef c t ws s i = (u, k)) :
    Calls Tryd.prog 9 #[.pointer (some ⟨bb, 0, none⟩), .int .i64 s, .int .i64 i] w fun e w' => e = .returned (.tuple #[.int .i64 u, .int .i64 k]) ∧ Ext w w' := by
  have H := Lib.hid h
  unfold bRef at hr
  obtain ⟨v, q, hv⟩ : ∃ v q, bLoad c t ws s i true = (v, q) := ⟨_, _, rfl⟩
  have HV := Lib.hid hv
  have vb : 0 ≤ v ∧ v < 18446744073709551616 := by
    unfold bLoad at hv
    split at hv
    · injection hv with e1 e2; rw [← e1]; exact h.ok _
    · injection hv with e1 e2; omega
  have ns := h.ko.nS_eq h.ti
  have nl := h.ko.nS_le h.ti
  rw [hv] at hr
  obtain ⟨N, hN⟩ : ∃ N, nS c t = N := ⟨_, rfl⟩
  rw [hN] at ns nl hr
  have HN := Lib.hid ns.symm
  clear h hv hN
  change (if q = 0 then (if (N : Int) < v then ((0 : Int), (5 : Int)) else (v - 1, 0)) else (0, q)) = (u, k) at hr
  have wn : IntKind.u64.wrap (N : Int) = N := IntWalk.u64_in _ (by omega)
  by_cases h0 : q = 0
  · subst h0
    rw [if_pos rfl] at hr
    by_cases hlt : (N : Int) < v
    · rw [if_pos hlt] at hr
      cases hr
      have tl : decide ((N : Int) < v) = true := decide_eq_true hlt
      clear ns
      go_enter Tryd.func9, Tryd.ntmps9
      go_wp2_with fail
      refine (body_load true H.out HV.out).mono ?_
      rintro e w1 ⟨rfl, x1⟩
      replace H := Lib.hid (H.out.ext x1)
      have b0 := H.out.box.c 0 _ rfl; have b1 := H.out.box.c 1 _ rfl; have b2 := H.out.box.c 2 _ rfl
      go_wp2_with fail
      clear b0 b1 b2
      refine (slot_SlotsV (N : Int) HN.out H.out.plan).mono ?_
      rintro e w2 ⟨rfl, rfl⟩
      go_wp2_with fail
      go_ret2
      exact ⟨rfl, x1⟩
    · rw [if_neg hlt] at hr
      obtain ⟨rfl, rfl⟩ : v - 1 = u ∧ 0 = k := by injection hr with e1 e2; exact ⟨e1, e2⟩
      have tl : decide ((N : Int) < v) = false := decide_eq_false hlt
      have wv : IntKind.i64.wrap v = v := IntWalk.i64_in _ (by omega)
      have wv1 : IntKind.i64.wrap (v - 1) = v - 1 := IntWalk.i64_in _ (by omega)
      clear ns hr
      go_enter Tryd.func9, Tryd.ntmps9
      go_wp2_with fail
      refine (body_load true H.out HV.out).mono ?_
      rintro e w1 ⟨rfl, x1⟩
      replace H := Lib.hid (H.out.ext x1)
      have b0 := H.out.box.c 0 _ rfl; have b1 := H.out.box.c 1 _ rfl; have b2 := H.out.box.c 2 _ rfl
      go_wp2_with fail
      clear b0 b1 b2
      refine (slot_SlotsV (N : Int) HN.out H.out.plan).mono ?_
      rintro e w2 ⟨rfl, rfl⟩
      go_wp2_with fail
      go_ret2
      exact ⟨rfl, x1⟩
  · rw [if_neg h0] at hr
    obtain ⟨rfl, rfl⟩ : 0 = u ∧ q = k := by injection hr with e1 e2; exact ⟨e1, e2⟩
    clear ns hr
    go_enter Tryd.func9, Tryd.ntmps9
    go_wp2_with fail
    refine (body_load true H.out HV.out).mono ?_
    rintro e w1 ⟨rfl, x1⟩
    go_wp2_with fail
    go_ret2
    exact ⟨rfl, x1⟩

/-! ### store -/
set_option maxHeartbeats 4000000 in
theorem body_store1 {a : Int} {p y : Nat} (h : BodyAt w bb mb gw gb pb gp c t ws) (hr : storeR c ws t a x = (ws', 0)) (ha : is64 a) (ho : WOk ws')
    (c0 : w.cell? ⟨p, 0, none⟩ = some (.pointer (some ⟨bb, 0, none⟩))) (c1 : w.cell? ⟨y, 0, none⟩ = some (.int .u64 x)) :
    Calls Tryd.prog 70 #[.int .i64 a, .pointer (some ⟨p, 0, none⟩), .pointer (some ⟨y, 0, none⟩)] w fun e w' => e = .returned (.tuple #[]) ∧ BodyAt w' bb mb gw gb pb gp c t ws' ∧ Chg (isB gw) w w' := by
  have H := Lib.hid h
  have HA := Lib.hid ha; have HR := Lib.hid hr; have HO := Lib.hid ho
  clear h ha hr ho
  go_enter Tryd.func70, Tryd.ntmps70
  go_upto_region 0 with fail
  have b0 := H.out.box.c 0 _ rfl; have b1 := H.out.box.c 1 _ rfl; have b2 := H.out.box.c 2 _ rfl
  go_region_with ((go_at_call 40; refine (bmem_Store H.out ?_ HA.out HR.out HO.out).mono ?_; (repeat (first | with_reducible exact Ext.refl _ | with_reducible refine Ext.drew ?_ | with_reducible refine Ext.drewN ?_ _ | with_reducible refine Ext.alloc ?_ _)); rintro e w2 ⟨rfl, hb, hc⟩))
  all_goals
    have HB := Lib.hid hb; have HC := Lib.hid hc
    clear hb hc b0 b1 b2
    go_wp2_with fail
    go_end0
    exact ⟨rfl, HB.out, HC.out⟩

set_option maxHeartbeats 4000000 in
theorem body_store (ref : Bool) (h : BodyAt w bb mb gw gb pb gp c t ws) (hx64 : 0 ≤ x ∧ x < 18446744073709551616) (hr : bStore c t ws s i ref x = (ws', k)) :
    Calls Tryd.prog 41 #[.pointer (some ⟨bb, 0, none⟩), .bool ref, .int .i64 s, .int .i64 i, .int .u64 x] w fun e w' => e = .returned (.int .i64 k) ∧ BodyAt w' bb mb gw gb pb gp c t ws' ∧ Chg (isB gw) w w' := by
  have hmf : ∀ (fn : Fn) (first cap : Array Value) (w : World), (Instr.makeFunc fn first cap).run Tryd.prog w = .ok (.func fn first cap) w := fun _ _ _ _ => rfl
  obtain ⟨z, hz⟩ : ∃ z, w.heap.size = z := ⟨_, rfl⟩
  obtain ⟨W0, hW0, ⟨b0, g0⟩, ⟨b1, g1⟩, X0⟩ := two_new w (.pointer (some ⟨bb, 0, none⟩)) (.int .u64 x) 31 26 hz
  obtain ⟨q, hq⟩ : ∃ q, bField c t ws s i ref = q := ⟨_, rfl⟩
  have OK : WOk ws' := by have := bStore_ok (c := c) (t := t) (s := s) (i := i) (r := ref) h.ok hx64; rw [hr] at this; exact this
  unfold bStore at hr
  rw [hq] at hr
  have CA := Lib.hid (body_at (cs := #[.pointer (some ⟨z, 0, none⟩), .pointer (some ⟨z + 1, 0, none⟩)]) (S := fun W w' => BodyAt w' bb mb gw gb pb gp c t ws' ∧ Chg (isB gw) W w') ref (h.ext X0) enters_bstore1 hq (fun h0 W hx => by
    rw [if_pos h0] at hr
    obtain ⟨hi, j, hji, hj⟩ := bField_in (hq.trans h0)
    have sb := slotB h.ko h.ti hi
    have a64 := sb.is64 h.ko h.ti
    have s64 := sb.s64
    have L := sb.store (ws := ws) h.ti (i := 1 + j) (by omega) x
    rw [show bAd c t s + ((1 + j : Nat) : Int) = bAd c t s + 1 + i by omega, show 1 + j = 1 + i.toNat by omega] at L
    have e1 : ws.set (bAt c t s (1 + i.toNat)) x = ws' := by injection hr
    rw [e1] at L
    exact (body_store1 (p := z) (y := z + 1) (h.ext (X0.trans hx)) L ⟨by omega, by omega⟩ OK (hx.cell b0) (hx.cell b1))))
  have XH := Lib.hid X0
  have H := Lib.hid h
  have bz := cell_lt b0
  clear h hq g0 b1 g1 X0 OK
  go_enter Tryd.func41, Tryd.ntmps41
  go_wp2_with fail
  clear hW0 hz b0 bz
  refine CA.out.mono ?_
  rintro e w1 ⟨rfl, W1, x1, h1⟩
  by_cases h0 : q = 0
  · rcases h1 with ⟨_, hb, hc⟩ | ⟨hn, _⟩
    · subst h0
      rw [if_pos rfl] at hr
      obtain rfl : 0 = k := by injection hr
      have C := Lib.hid hc; have B := Lib.hid hb
      have X1 := Lib.hid x1
      clear hr hc x1 hb
      go_wp2_with fail
      go_ret
      exact ⟨rfl, B.out, (Chg.of_ext (XH.out.trans X1.out)).trans C.out⟩
    · exact absurd h0 hn
  · rcases h1 with ⟨hn, _⟩ | ⟨_, rfl⟩
    · exact absurd hn h0
    · rw [if_neg h0] at hr
      obtain ⟨rfl, rfl⟩ : ws = ws' ∧ q = k := by injection hr with e1 e2; exact ⟨e1, e2⟩
      have X1 := Lib.hid x1
      clear hr x1
      go_wp2_with fail
      go_ret
      exact ⟨rfl, H.out.ext (XH.out.trans X1.out), Chg.of_ext (XH.out.trans X1.out)⟩

set_option maxHeartbeats 4000000 in
theorem body_SetWord (h : BodyAt w bb mb gw gb pb gp c t ws) (hx64 : 0 ≤ x ∧ x < 18446744073709551616) (hr : bSetWord c t ws s i x = (ws', k)) :
    Calls Tryd.prog 14 #[.pointer (some ⟨bb, 0, none⟩), .int .i64 s, .int .i64 i, .int .u64 x] w fun e w' => e = .returned (.int .i64 k) ∧ BodyAt w' bb mb gw gb pb gp c t ws' ∧ Chg (isB gw) w w' := by
  have H := Lib.hid h; have HR := Lib.hid hr; have HX := Lib.hid hx64
  clear h hr hx64
  go_enter Tryd.func14, Tryd.ntmps14
  go_wp2_with fail
  refine (body_store false H.out HX.out HR.out).mono ?_
  rintro e w1 ⟨rfl, hb, hc⟩
  have B := Lib.hid hb; have C := Lib.hid hc
  clear hb hc
  go_wp2_with fail
  go_ret
  exact ⟨rfl, B.out, C.out⟩

set_option maxHeartbeats 4000000 in
theorem body_SetRef {to : Int} (h : BodyAt w bb mb gw gb pb gp c t ws) (hr : bSetRef c t ws s i to = (ws', k)) :
    Calls Tryd.prog 13 #[.pointer (some ⟨bb, 0, none⟩), .int .i64 s, .int .i64 i, .int .i64 to] w fun e w' => e = .returned (.int .i64 k) ∧ BodyAt w' bb mb gw gb pb gp c t ws' ∧ Chg (isB gw) w w' := by
  have H := Lib.hid h
  unfold bSetRef at hr
  have ns := h.ko.nS_eq h.ti
  have nl := h.ko.nS_le h.ti
  by_cases hi : bIn c t s
  · have HP := Lib.hid (show bPlace c t s = (bAd c t s, bSz c t s, 0) by unfold bPlace; rw [if_pos hi])
    obtain ⟨N, hN⟩ : ∃ N, nS c t = N := ⟨_, rfl⟩
    rw [hN] at ns nl hr
    have HN := Lib.hid ns.symm
    by_cases ht : -1 ≤ to ∧ to < (N : Int)
    · rw [if_pos ⟨hi, ht⟩] at hr
      have HR := Lib.hid hr
      obtain ⟨t0, t1⟩ := ht
      have wt : IntKind.i64.wrap (to + 1) = to + 1 := IntWalk.i64_in _ (by omega)
      have wu : IntKind.u64.wrap (to + 1) = to + 1 := IntWalk.u64_in _ (by omega)
      have d0 : decide (to < -1) = false := decide_eq_false (by omega)
      have d1 : decide ((N : Int) ≤ to) = false := decide_eq_false (by omega)
      have XB := Lib.hid (show 0 ≤ to + 1 ∧ to + 1 < 18446744073709551616 by omega)
      clear h hi hr hN ns
      go_enter Tryd.func13, Tryd.ntmps13
      go_wp2_with fail
      refine (body_place H.out HP.out).mono ?_
      rintro e w1 ⟨rfl, x1⟩
      replace H := Lib.hid (H.out.ext x1)
      have b0 := H.out.box.c 0 _ rfl; have b1 := H.out.box.c 1 _ rfl; have b2 := H.out.box.c 2 _ rfl
      go_wp2_with fail
      clear b0 b1 b2
      refine (slot_SlotsV (N : Int) HN.out H.out.plan).mono ?_
      rintro e w2 ⟨rfl, rfl⟩
      go_wp2_with fail
      refine (body_store true H.out XB.out HR.out).mono ?_
      rintro e w3 ⟨rfl, hb, hc⟩
      have B := Lib.hid hb; have C := Lib.hid ((Chg.of_ext x1).trans hc)
      clear hb hc x1
      go_wp2_with fail
      go_ret
      exact ⟨rfl, B.out, C.out⟩
    · rw [if_neg (fun q => ht q.2)] at hr
      obtain ⟨rfl, rfl⟩ : ws = ws' ∧ 2 = k := by injection hr with e1 e2; exact ⟨e1, e2⟩
      clear h hi hr hN ns
      by_cases h1 : to < -1
      · have d0 : decide (to < -1) = true := decide_eq_true h1
        clear ht
        go_enter Tryd.func13, Tryd.ntmps13
        go_wp2_with fail
        refine (body_place H.out HP.out).mono ?_
        rintro e w1 ⟨rfl, x1⟩
        replace H := Lib.hid (H.out.ext x1)
        go_wp2_with fail
        go_ret
        exact ⟨rfl, H.out, Chg.of_ext x1⟩
      · have d0 : decide (to < -1) = false := decide_eq_false h1
        have d1 : decide ((N : Int) ≤ to) = true := decide_eq_true (by omega)
        clear ht
        go_enter Tryd.func13, Tryd.ntmps13
        go_wp2_with fail
        refine (body_place H.out HP.out).mono ?_
        rintro e w1 ⟨rfl, x1⟩
        replace H := Lib.hid (H.out.ext x1)
        have b0 := H.out.box.c 0 _ rfl; have b1 := H.out.box.c 1 _ rfl; have b2 := H.out.box.c 2 _ rfl
        go_wp2_with fail
        clear b0 b1 b2
        refine (slot_SlotsV (N : Int) HN.out H.out.plan).mono ?_
        rintro e w2 ⟨rfl, rfl⟩
        go_wp2_with fail
        go_ret
        exact ⟨rfl, H.out, Chg.of_ext x1⟩
  · rw [if_neg (fun q => hi q.1)] at hr
    have HP := Lib.hid (show bPlace c t s = (0, 0, 2) by unfold bPlace; rw [if_neg hi])
    obtain ⟨rfl, rfl⟩ : ws = ws' ∧ 2 = k := by injection hr with e1 e2; exact ⟨e1, e2⟩
    clear h hi hr ns
    go_enter Tryd.func13, Tryd.ntmps13
    go_wp2_with fail
    refine (body_place H.out HP.out).mono ?_
    rintro e w1 ⟨rfl, x1⟩
    replace H := Lib.hid (H.out.ext x1)
    go_wp2_with fail
    go_ret
    exact ⟨rfl, H.out, Chg.of_ext x1⟩

end Go.Proofs.YtnbngcagnchkdaaDoor
