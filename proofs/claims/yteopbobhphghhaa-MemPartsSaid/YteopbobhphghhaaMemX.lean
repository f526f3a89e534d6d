/-
  mem: a memory that is none; Copy; New.
-/
import Derived.Test.YteopbobhphghhaaMemW
import Derived.Test.YteopbobhphghhaaMade
namespace Go.Proofs.Yteopbobhphghhaa
open Go.RowKit

/-! ### A memory that is none -/
def NoMem (w : World) (p : Option Addr) : Prop := p = none ∨ ∃ b, p = some ⟨b, 0, none⟩ ∧ MemZ w b
theorem NoMem.ext {w w' : World} {p : Option Addr} (h : NoMem w p) (hx : Ext w w') : NoMem w' p := by
  rcases h with h | ⟨b, h, h0, h1⟩
  · exact .inl h
  · exact .inr ⟨b, h, hx.cell h0, hx.cell h1⟩
theorem mem_none_no {p : Option Addr} {w : World} (h : NoMem w p) : Calls Try.prog 55 #[.pointer p] w fun e w' => e = .returned (.bool true) ∧ w = w' := by
  rcases h with rfl | ⟨b, rfl, h⟩
  · exact mem_none_nil
  · exact mem_none_zero h
set_option maxHeartbeats 1000000 in
theorem mem_region_nil {p : Option Addr} {t : Int} {w : World} (h : NoMem w p) : Calls Try.prog 45 #[.pointer p, .int .i64 t] w fun e w' => e = gaveUp 1 ∧ w = w' := by
  have H := Lib.hid h
  clear h
  go_enter Try.func45, Try.ntmps45
  go_wp2_with fail
  refine (mem_none_no H.out).mono ?_
  rintro e w1000 ⟨rfl, rfl⟩
  go_wp2_with fail
  exact ⟨rfl, rfl, rfl⟩
set_option maxHeartbeats 1000000 in
theorem mem_part_nil {p : Option Addr} {t a n : Int} {w : World} (h : NoMem w p) : Calls Try.prog 47 #[.pointer p, .int .i64 t, .int .i64 a, .int .i64 n] w fun e w' => e = gaveUp 1 ∧ w = w' := by
  have H := Lib.hid h
  clear h
  go_enter Try.func47, Try.ntmps47
  go_wp2_with fail
  refine (mem_region_nil H.out).mono ?_
  rintro e w1 ⟨rfl, rfl⟩
  exact ⟨rfl, rfl, rfl⟩

set_option maxHeartbeats 4000000 in
theorem mem_Load_nil {p : Option Addr} {t a : Int} {w : World} (h : NoMem w p) :
    Calls Try.prog 15 #[.pointer p, .int .i64 t, .int .i64 a] w fun e w' => e = .returned (.tuple #[.int .u64 0, .int .i64 1]) ∧ Ext w w' := by
  have hmf : ∀ (fn : Fn) (first cap : Array Value) (w : World), (Instr.makeFunc fn first cap).run Try.prog w = .ok (.func fn first cap) w := fun _ _ _ _ => rfl
  obtain ⟨z, hz⟩ : ∃ z, w.heap.size = z := ⟨_, rfl⟩
  obtain ⟨⟨c0, _⟩, ⟨c1, _⟩, ⟨c2, _⟩, ⟨c3, f3⟩, _, hx⟩ := five_boxes w (.pointer p) (.int .i64 t) (.int .i64 a) (.int .u64 0) (.int .i64 0) 30 3 3 34 31 hz rfl
  have HP := Lib.hid (h.ext hx)
  have X1 : ∀ W : World, Hid (NoMem W p) → W.cell? ⟨z, 0, none⟩ = some (.pointer p) → W.cell? ⟨z + 1, 0, none⟩ = some (.int .i64 t) → W.cell? ⟨z + 1 + 1, 0, none⟩ = some (.int .i64 a) → W.cell? ⟨z + 1 + 1 + 1, 0, none⟩ = some (.int .u64 0) → W.frozen? ⟨z + 1 + 1 + 1, 0, none⟩ = false →
      Calls Try.prog 49 #[.pointer (some ⟨z, 0, none⟩), .pointer (some ⟨z + 1, 0, none⟩), .pointer (some ⟨z + 1 + 1, 0, none⟩), .pointer (some ⟨z + 1 + 1 + 1, 0, none⟩)] W fun e w' => within 1 e ∧ Chg (isB (z + 1 + 1 + 1)) W w' ∧ w'.cell? ⟨z + 1 + 1 + 1, 0, none⟩ = some (.int .u64 0) ∧ w'.frozen? ⟨z + 1 + 1 + 1, 0, none⟩ = false := by
    intro W HW d0 d1 d2 d3 g3
    go_enter Try.func49, Try.ntmps49
    go_wp2_with fail
    refine (mem_part_nil HW.out).mono ?_
    rintro e w1 ⟨rfl, rfl⟩
    exact ⟨rfl, .inr ⟨by decide, rfl⟩, Chg.refl _ _, d3, g3⟩
  have L1 := Lib.hid (mem_on' (z := z + 1 + 1 + 1 + 1) (P := isB (z + 1 + 1 + 1)) (S := fun w' => w'.cell? ⟨z + 1 + 1 + 1, 0, none⟩ = some (.int .u64 0) ∧ w'.frozen? ⟨z + 1 + 1 + 1, 0, none⟩ = false) 1 enters_load1 (by simp [hz]) (by unfold isB; omega)
    (X1 _ HP c0 c1 c2 c3 f3) (fun w' q => ⟨by rw [cell_far _ _ _ _ (by simp)]; exact q.1, by simpa using q.2⟩))
  have HZ := Lib.hid hz
  clear c0 c1 c2 c3 f3 hx h X1 HP
  go_enter Try.func15, Try.ntmps15
  go_wp2_with fail
  refine L1.out.mono ?_
  rintro e w1 ⟨rfl, hc, c3, f3⟩
  go_wp2_with fail
  have d3 := World.cell?_setCell_same w1 ⟨z + 1 + 1 + 1, 0, none⟩ (.int .u64 0) c3
  refine bodyPost_ret (v := .tuple #[.int .u64 0, .int .i64 1]) (by simp [results, Try.results15, go_sem, d3]) rfl ⟨rfl, ?_⟩
  refine (Chg.setCell (P := isB (z + 1 + 1 + 1)) (p := ⟨z + 1 + 1 + 1, 0, none⟩) hc (.inl rfl) _).over ((((Ext.refl w).alloc _).alloc _).alloc _ |>.alloc _) (fun j hj => ?_)
  have := HZ.out
  unfold isB at hj
  omega

set_option maxHeartbeats 4000000 in
theorem mem_Store_nil {p : Option Addr} {t a x : Int} {w : World} (h : NoMem w p) :
    Calls Try.prog 14 #[.pointer p, .int .i64 t, .int .i64 a, .int .u64 x] w fun e w' => e = .returned (.int .i64 1) ∧ Ext w w' := by
  have hmf : ∀ (fn : Fn) (first cap : Array Value) (w : World), (Instr.makeFunc fn first cap).run Try.prog w = .ok (.func fn first cap) w := fun _ _ _ _ => rfl
  obtain ⟨z, hz⟩ : ∃ z, w.heap.size = z := ⟨_, rfl⟩
  obtain ⟨⟨c0, _⟩, ⟨c1, _⟩, ⟨c2, _⟩, ⟨c3, _⟩, _, hx⟩ := five_boxes w (.pointer p) (.int .i64 t) (.int .i64 a) (.int .u64 x) (.int .i64 0) 30 3 3 34 31 hz rfl
  have HP := Lib.hid (h.ext hx)
  have X1 : ∀ W : World, Hid (NoMem W p) → W.cell? ⟨z, 0, none⟩ = some (.pointer p) → W.cell? ⟨z + 1, 0, none⟩ = some (.int .i64 t) → W.cell? ⟨z + 1 + 1, 0, none⟩ = some (.int .i64 a) → W.cell? ⟨z + 1 + 1 + 1, 0, none⟩ = some (.int .u64 x) →
      Calls Try.prog 48 #[.pointer (some ⟨z + 1 + 1 + 1, 0, none⟩), .pointer (some ⟨z, 0, none⟩), .pointer (some ⟨z + 1, 0, none⟩), .pointer (some ⟨z + 1 + 1, 0, none⟩)] W fun e w' => within 1 e ∧ Chg (fun _ => False) W w' ∧ True := by
    intro W HW d0 d1 d2 d3
    go_enter Try.func48, Try.ntmps48
    go_wp2_with fail
    refine wp_region_held_drew (S := (fun w' => w'.cell? ⟨z, 0, none⟩ = some (.pointer p) ∧ w'.cell? ⟨z + 1, 0, none⟩ = some (.int .i64 t) ∧ w'.cell? ⟨z + 1 + 1, 0, none⟩ = some (.int .i64 a) ∧ w'.cell? ⟨z + 1 + 1 + 1, 0, none⟩ = some (.int .u64 x))) (by kernel_rfl) ?_ (fun hHeld => ?_)
    focus ((try dsimp only); go_keep)
    refine wpAnyH_take (i := 0) (v := ?_) rfl (by kernel_rfl) (by kernel_rfl) (by kernel_rfl) (fun _ _ _ h => h) (Or.inl ⟨by rfl, ?_⟩) (by assumption) ?_
    rotate_left
    focus (intro w hSw; (try dsimp only at hSw); go_simp; try with_reducible rfl)
    try simp only [Act.put, List.setIfInBounds_toArray, List.set_cons_zero, List.set_cons_succ]
    refine wpAnyH_take (i := 1) (v := ?_) rfl (by kernel_rfl) (by kernel_rfl) (by kernel_rfl) (fun _ _ _ h => h) (Or.inl ⟨by rfl, ?_⟩) (by assumption) ?_
    rotate_left
    focus (intro w hSw; (try dsimp only at hSw); go_simp; try with_reducible rfl)
    try simp only [Act.put, List.setIfInBounds_toArray, List.set_cons_zero, List.set_cons_succ]
    refine wpAnyH_take (i := 2) (v := ?_) rfl (by kernel_rfl) (by kernel_rfl) (by kernel_rfl) (fun _ _ _ h => h) (Or.inl ⟨by rfl, ?_⟩) (by assumption) ?_
    rotate_left
    focus (intro w hSw; (try dsimp only at hSw); go_simp; try with_reducible rfl)
    try simp only [Act.put, List.setIfInBounds_toArray, List.set_cons_zero, List.set_cons_succ]
    refine wpAnyH_take (i := 4) (v := ?_) rfl (by kernel_rfl) (by kernel_rfl) (by kernel_rfl) (fun _ _ _ h => h) (Or.inl ⟨by rfl, ?_⟩) (by assumption) ?_
    rotate_left
    focus (intro w hSw; (try dsimp only at hSw); go_simp; try with_reducible rfl)
    try simp only [Act.put, List.setIfInBounds_toArray, List.set_cons_zero, List.set_cons_succ]
    refine wpAnyH_ready (rs := [3]) (by kernel_rfl) (by simp) ?_
    refine AllReadyH.cons (i := 3) rfl (fun K hK => ?_) AllReadyH.nil
    go_simp
    go_at_call 47
    refine (mem_part_nil (HW.out.ext (Ext.refl W).drew)).mono ?_
    rintro e w1 ⟨rfl, rfl⟩
    exact ⟨rfl, .inr ⟨by decide, rfl⟩, (Chg.refl _ _).drew, trivial⟩
  have L1 := Lib.hid (mem_on' (z := z + 1 + 1 + 1 + 1) (P := fun _ => False) (S := fun _ => True) 1 enters_store1 (by simp [hz]) (fun a => a) (X1 _ HP c0 c1 c2 c3) (fun _ _ => trivial))
  clear c0 c1 c2 c3 hx h X1 HP
  go_enter Try.func14, Try.ntmps14
  go_wp2_with fail
  refine L1.out.mono ?_
  rintro e w1 ⟨rfl, hc, _⟩
  go_wp2_with fail
  go_ret
  exact ⟨rfl, ((((Ext.refl w).alloc _).alloc _).alloc _ |>.alloc _).trans hc.ext⟩

set_option maxHeartbeats 4000000 in
theorem mem_Zero_nil {p : Option Addr} {t a n : Int} {w : World} (h : NoMem w p) :
    Calls Try.prog 13 #[.pointer p, .int .i64 t, .int .i64 a, .int .i64 n] w fun e w' => e = .returned (.int .i64 1) ∧ Ext w w' := by
  have hmf : ∀ (fn : Fn) (first cap : Array Value) (w : World), (Instr.makeFunc fn first cap).run Try.prog w = .ok (.func fn first cap) w := fun _ _ _ _ => rfl
  obtain ⟨z, hz⟩ : ∃ z, w.heap.size = z := ⟨_, rfl⟩
  obtain ⟨⟨c0, _⟩, ⟨c1, _⟩, ⟨c2, _⟩, ⟨c3, _⟩, _, hx⟩ := five_boxes w (.pointer p) (.int .i64 t) (.int .i64 a) (.int .i64 n) (.int .i64 0) 30 3 3 3 31 hz rfl
  have HP := Lib.hid (h.ext hx)
  have X1 : ∀ W : World, Hid (NoMem W p) → W.cell? ⟨z, 0, none⟩ = some (.pointer p) → W.cell? ⟨z + 1, 0, none⟩ = some (.int .i64 t) → W.cell? ⟨z + 1 + 1, 0, none⟩ = some (.int .i64 a) → W.cell? ⟨z + 1 + 1 + 1, 0, none⟩ = some (.int .i64 n) →
      Calls Try.prog 46 #[.pointer (some ⟨z, 0, none⟩), .pointer (some ⟨z + 1, 0, none⟩), .pointer (some ⟨z + 1 + 1, 0, none⟩), .pointer (some ⟨z + 1 + 1 + 1, 0, none⟩)] W fun e w' => within 1 e ∧ Chg (fun _ => False) W w' ∧ True := by
    intro W HW d0 d1 d2 d3
    go_enter Try.func46, Try.ntmps46
    go_wp2_with fail
    refine (mem_part_nil HW.out).mono ?_
    rintro e w1 ⟨rfl, rfl⟩
    exact ⟨rfl, .inr ⟨by decide, rfl⟩, Chg.refl _ _, trivial⟩
  have L1 := Lib.hid (mem_on' (z := z + 1 + 1 + 1 + 1) (P := fun _ => False) (S := fun _ => True) 1 enters_zero1 (by simp [hz]) (fun a => a) (X1 _ HP c0 c1 c2 c3) (fun _ _ => trivial))
  clear c0 c1 c2 c3 hx h X1 HP
  go_enter Try.func13, Try.ntmps13
  go_wp2_with fail
  refine L1.out.mono ?_
  rintro e w1 ⟨rfl, hc, _⟩
  go_wp2_with fail
  go_ret
  exact ⟨rfl, ((((Ext.refl w).alloc _).alloc _).alloc _ |>.alloc _).trans hc.ext⟩

set_option maxHeartbeats 4000000 in
theorem mem_Words_nil {p : Option Addr} {t : Int} {w : World} (h : NoMem w p) :
    Calls Try.prog 12 #[.pointer p, .int .i64 t] w fun e w' => e = .returned (.tuple #[.slice none 0 0, .int .i64 1]) ∧ Ext w w' := by
  have hmf : ∀ (fn : Fn) (first cap : Array Value) (w : World), (Instr.makeFunc fn first cap).run Try.prog w = .ok (.func fn first cap) w := fun _ _ _ _ => rfl
  obtain ⟨z, hz⟩ : ∃ z, w.heap.size = z := ⟨_, rfl⟩
  obtain ⟨⟨c0, _⟩, ⟨c1, _⟩, ⟨c2, f2⟩, hx⟩ := three_boxes w (.pointer p) (.int .i64 t) (.slice none 0 0) (.int .i64 0) 30 3 38 31 hz rfl
  have HP := Lib.hid (h.ext hx)
  have X1 : ∀ W : World, Hid (NoMem W p) → W.cell? ⟨z, 0, none⟩ = some (.pointer p) → W.cell? ⟨z + 1, 0, none⟩ = some (.int .i64 t) → W.cell? ⟨z + 1 + 1, 0, none⟩ = some (.slice none 0 0) → W.frozen? ⟨z + 1 + 1, 0, none⟩ = false →
      Calls Try.prog 43 #[.pointer (some ⟨z, 0, none⟩), .pointer (some ⟨z + 1, 0, none⟩), .pointer (some ⟨z + 1 + 1, 0, none⟩)] W fun e w' => within 1 e ∧ Chg (isB (z + 1 + 1)) W w' ∧ w'.cell? ⟨z + 1 + 1, 0, none⟩ = some (.slice none 0 0) ∧ w'.frozen? ⟨z + 1 + 1, 0, none⟩ = false := by
    intro W HW d0 d1 d2 g2
    go_enter Try.func43, Try.ntmps43
    go_wp2_with fail
    refine (mem_region_nil HW.out).mono ?_
    rintro e w1 ⟨rfl, rfl⟩
    exact ⟨rfl, .inr ⟨by decide, rfl⟩, Chg.refl _ _, d2, g2⟩
  have L1 := Lib.hid (mem_on' (z := z + 1 + 1 + 1) (P := isB (z + 1 + 1)) (S := fun w' => w'.cell? ⟨z + 1 + 1, 0, none⟩ = some (.slice none 0 0) ∧ w'.frozen? ⟨z + 1 + 1, 0, none⟩ = false) 1 enters_mwords1 (by simp [hz]) (by unfold isB; omega)
    (X1 _ HP c0 c1 c2 f2) (fun w' q => ⟨by rw [cell_far _ _ _ _ (by simp)]; exact q.1, by simpa using q.2⟩))
  have HZ := Lib.hid hz
  clear c0 c1 c2 f2 hx h X1 HP
  go_enter Try.func12, Try.ntmps12
  go_wp2_with fail
  refine L1.out.mono ?_
  rintro e w1 ⟨rfl, hc, c2, f2⟩
  go_wp2_with fail
  have d2 := World.cell?_setCell_same w1 ⟨z + 1 + 1, 0, none⟩ (.slice none 0 0) c2
  refine bodyPost_ret (v := .tuple #[.slice none 0 0, .int .i64 1]) (by simp [results, Try.results12, go_sem, d2]) rfl ⟨rfl, ?_⟩
  refine (Chg.setCell (P := isB (z + 1 + 1)) (p := ⟨z + 1 + 1, 0, none⟩) hc (.inl rfl) _).over ((((Ext.refl w).alloc _).alloc _).alloc _) (fun j hj => ?_)
  have := HZ.out
  unfold isB at hj
  omega

set_option maxHeartbeats 1000000 in
theorem mem_All_nil {p : Option Addr} {w : World} (h : NoMem w p) : Calls Try.prog 20 #[.pointer p] w fun e w' => e = .returned (.slice none 0 0) ∧ w = w' := by
  have H := Lib.hid h
  clear h
  go_enter Try.func20, Try.ntmps20
  go_wp2_with fail
  refine (mem_none_no H.out).mono ?_
  rintro e w1000 ⟨rfl, rfl⟩
  go_wp2_with fail
  go_ret
  exact ⟨rfl, rfl⟩
set_option maxHeartbeats 1000000 in
theorem mem_Copy_nil {p : Option Addr} {w : World} (h : NoMem w p) : Calls Try.prog 21 #[.pointer p] w fun e w' => e = .returned (.pointer none) ∧ w = w' := by
  have H := Lib.hid h
  clear h
  go_enter Try.func21, Try.ntmps21
  go_wp2_with fail
  refine (mem_none_no H.out).mono ?_
  rintro e w1000 ⟨rfl, rfl⟩
  go_wp2_with fail
  go_ret
  exact ⟨rfl, rfl⟩

/-! ### Copy -/
def basesTo (c : Conf) (k : Nat) : List Int := (List.range k).map fun t => (baseN c t : Int)
theorem basesTo_len (c : Conf) (k : Nat) : (basesTo c k).length = k := by simp [basesTo]
theorem basesTo_succ (c : Conf) (k : Nat) : basesTo c (k + 1) = basesTo c k ++ [(baseN c k : Int)] := by unfold basesTo; rw [List.range_succ, List.map_append]; rfl
theorem nth_basesTo {c : Conf} {k t : Nat} (h : t < k) : nth (basesTo c k) t = baseN c t := by simp [nth, List.getD, basesTo, h]
theorem MemAt.basesAt {w : World} {b gw gb : Nat} {c : Conf} {ws : List Int} (h : MemAt w b gw gb c ws) : At .i64 w (some ⟨gb, 0, none⟩) (basesTo c (c.ts.length + 1)) := by
  refine At.mk fun i hi => ?_
  rw [basesTo_len] at hi
  rw [Nat.zero_add, nth_basesTo hi]
  exact h.base i (by omega)
theorem MemAt.ofNew {w0 W W' : World} {b : Nat} {c : Conf} {ws : List Int} {a1 a2 : Option Addr} {k1 k2 : Nat} (ho : KOk c) (hl : ws.length = totalN c) (h1 : NewInts .u64 w0 W a1 k1 ws) (h2 : NewInts .i64 w0 W a2 k2 (basesTo c (c.ts.length + 1))) (hx : Ext W W')
    (hne : ∀ g1 g2, a1 = some ⟨g1, 0, none⟩ → a2 = some ⟨g2, 0, none⟩ → g2 ≠ g1) (hb : W.heap.size ≤ b) (c0 : W'.cell? ⟨b, 0, none⟩ = some (.slice a1 ws.length k1)) (c1 : W'.cell? ⟨b, 1, none⟩ = some (.slice a2 (c.ts.length + 1) k2)) :
    ∃ gw gb, MemAt W' b gw gb c ws ∧ w0.heap.size ≤ gw ∧ w0.heap.size ≤ gb := by
  obtain ⟨g1, rfl, l1, u1, f1⟩ := h1.own (by rw [hl]; exact ho.total_pos)
  obtain ⟨g2, rfl, l2, u2, f2⟩ := h2.own (by rw [basesTo_len]; omega)
  have q1 := h1.cap1; have q2 := h2.cap1
  rw [basesTo_len] at q2
  refine ⟨g1, g2, ⟨ho, hl, ⟨k1, c0, q1, h1.cap2⟩, ⟨k2, c1, q2, h2.cap2⟩, h1.row.ext hx, fun t ht => ?_, fun o => by rw [hx.frozen (p := ⟨g1, o, none⟩) u1]; exact f1 o, by omega, hne g1 g2 rfl rfl⟩, l1, l2⟩
  obtain ⟨b', o', e, hc⟩ := h2.row t (by rw [basesTo_len]; omega)
  cases e
  rw [Nat.zero_add, nth_basesTo (by omega)] at hc
  exact hx.cell hc

theorem MemNew.mk {c : Conf} {ws : List Int} {w W : World} {a1 a2 : Option Addr} {k1 k2 N2 : Nat} {u : TypeId} (ho : KOk c) (hl : ws.length = totalN c) (e2 : c.ts.length + 1 = N2) (h1 : NewInts .u64 w W a1 k1 ws) (h2 : NewInts .i64 w W a2 k2 (basesTo c N2))
    (hne : ∀ g1 g2, a1 = some ⟨g1, 0, none⟩ → a2 = some ⟨g2, 0, none⟩ → g2 ≠ g1) (hx : Ext w W) :
    MemNew c ws w (.returned (.pointer (some ⟨W.heap.size, 0, none⟩))) (W.alloc (.cells #[.slice a1 ws.length k1, .slice a2 (basesTo c N2).length k2] u)) := by
  subst e2
  rw [basesTo_len]
  obtain ⟨gw, gb, h, l1, l2⟩ := MemAt.ofNew (W' := W.alloc (.cells #[.slice a1 ws.length k1, .slice a2 (c.ts.length + 1) k2] u)) ho hl h1 h2 ((Ext.refl W).alloc _) hne (Nat.le_refl _) (cell_newN W _ u 0) (cell_newN W _ u 1)
  exact ⟨_, gw, gb, rfl, h, hx.size, l1, l2, hx.alloc _⟩

set_option maxHeartbeats 4000000 in
theorem mem_Copy {b gw gb : Nat} {c : Conf} {ws : List Int} {w : World} (h : MemAt w b gw gb c ws) : Calls Try.prog 21 #[.pointer (some ⟨b, 0, none⟩)] w (MemNew c ws w) := by
  obtain ⟨cap, h0, hc1, hc2⟩ := h.words
  obtain ⟨cap', h1, _⟩ := h.bases
  have hb : ws.length * 8 ≤ 140737488355328 := by have := h.ok.total_le; have := h.len; omega
  have hb2 : (basesTo c (c.ts.length + 1)).length * 8 ≤ 140737488355328 := by have := h.ok.head.2.2.2.1; rw [basesTo_len]; omega
  have hd : Ext w w.drew := (Ext.refl w).drew
  have HA := Lib.hid h.basesAt
  have HN : Hid (∀ w', Ext w w' → Calls Try.prog 56 #[.slice (some ⟨gb, 0, none⟩) (c.ts.length + 1) cap'] w' (ClonedInts .i64 (basesTo c (c.ts.length + 1)) w')) := Lib.hid fun w' x => by
    have := clone_ints (cap := cap') (basesTo c (c.ts.length + 1)) (HA.out.ext x) hb2
    rwa [basesTo_len] at this
  have H := Lib.hid h; have HB := Lib.hid hb
  clear h hb hb2
  obtain ⟨N1, e1⟩ : ∃ n, ws.length = n := ⟨_, rfl⟩
  have HW : Hid (∀ w', Ext w w' → Calls Try.prog 44 #[.slice (some ⟨gw, 0, none⟩) N1 cap] w' (ClonedInts .u64 ws w')) := Lib.hid fun w' x => by
    have := clone_words (cap := cap) ws (H.out.row.ext x) HB.out
    rwa [e1] at this
  obtain ⟨N2, e2⟩ : ∃ n, c.ts.length + 1 = n := ⟨_, rfl⟩
  rw [e1] at h0
  rw [e2] at h1 HN
  have E1 := Lib.hid e1; have E2 := Lib.hid e2
  clear e1 e2 hc1 hc2
  go_enter Try.func21, Try.ntmps21
  go_wp2_with fail
  refine (mem_none H.out).mono ?_
  rintro e w1000 ⟨rfl, rfl⟩
  go_wp2_with fail
  go_region_held3 (fun w' => w'.cell? ⟨b, 0, none⟩ = some (.slice (some ⟨gw, 0, none⟩) N1 cap) ∧ w'.cell? ⟨b, 1, none⟩ = some (.slice (some ⟨gb, 0, none⟩) N2 cap'))
    ((first | go_keep | (go_split_ands; exact ⟨hE.cell (by assumption), hE.cell (by assumption)⟩)))
    (first | (go_at_call 44; refine (HW.out _ ?_).mono ?_; assumption; rintro e w1 ⟨a1, c1, rfl, hn1, hE⟩; have hE1 := hE; have hX1 : Ext w w1 := Ext.trans (by assumption) hE) | (go_at_call 56; refine (HN.out _ ?_).mono ?_; assumption; rintro e w2 ⟨a2, c2, rfl, hn2, hE⟩; have hE2 := hE; have hX2 : Ext w w2 := Ext.trans (by assumption) hE))
  all_goals
    go_wp2_with fail
    go_ret
    first
      | exact MemNew.mk H.out.ok H.out.len E2.out ((hn1.lower hd.size).ext hE2) (hn2.lower hX1.size) (fun g1 g2 e1 e2 => by
          obtain ⟨x1, q1, _, q2, _⟩ := hn1.own (by have := H.out.len; have := H.out.ok.total_pos; omega)
          obtain ⟨x2, q3, q4, _⟩ := hn2.own (by rw [basesTo_len]; have := E2.out; omega)
          rw [q1] at e1; rw [q3] at e2; cases e1; cases e2; omega) hX2
      | exact MemNew.mk H.out.ok H.out.len E2.out (hn1.lower hX2.size) ((hn2.lower hd.size).ext hE1) (fun g1 g2 e1 e2 => by
          obtain ⟨x1, q1, q2, _⟩ := hn1.own (by have := H.out.len; have := H.out.ok.total_pos; omega)
          obtain ⟨x2, q3, _, q4, _⟩ := hn2.own (by rw [basesTo_len]; have := E2.out; omega)
          rw [q1] at e1; rw [q3] at e2; cases e1; cases e2; omega) hX1

end Go.Proofs.Yteopbobhphghhaa
