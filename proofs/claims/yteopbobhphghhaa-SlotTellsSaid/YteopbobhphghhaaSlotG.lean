/-
  slot: what is refused, and a plan that is none.
-/
import Derived.Test.YteopbobhphghhaaSlotQ
namespace Go.Proofs.Yteopbobhphghhaa
open Go.RowKit Go.Shelf
attribute [local go_sem] Oper.semAt_some

set_option maxHeartbeats 1000000 in
theorem slot_none_nil {w : World} : Calls Try.prog 65 #[.pointer none] w fun e w' => e = .returned (.bool true) ∧ w = w' := by
  go_enter Try.func65, Try.ntmps65
  go_wp2_with fail
  go_ret
  exact ⟨rfl, rfl⟩
set_option maxHeartbeats 1000000 in
theorem slot_none_zero {b : Nat} {w : World} (h3 : w.cell? ⟨b, 3, none⟩ = some (.int .i64 0)) : Calls Try.prog 65 #[.pointer (some ⟨b, 0, none⟩)] w fun e w' => e = .returned (.bool true) ∧ w = w' := by
  go_enter Try.func65, Try.ntmps65
  go_wp2_with fail
  go_ret
  exact ⟨rfl, rfl⟩
set_option maxHeartbeats 1000000 in
theorem slot_Slots_nil {w : World} : Calls Try.prog 30 #[.pointer none] w fun e w' => e = .returned (.int .i64 0) ∧ w = w' := by
  go_enter Try.func30, Try.ntmps30
  go_wp2_with fail
  refine (slot_none_nil).mono ?_
  rintro e w1000 ⟨rfl, rfl⟩
  go_wp2_with fail
  go_ret
  exact ⟨rfl, rfl⟩
set_option maxHeartbeats 1000000 in
theorem slot_Words_nil {w : World} : Calls Try.prog 32 #[.pointer none] w fun e w' => e = .returned (.int .i64 0) ∧ w = w' := by
  go_enter Try.func32, Try.ntmps32
  go_wp2_with fail
  refine (slot_none_nil).mono ?_
  rintro e w1000 ⟨rfl, rfl⟩
  go_wp2_with fail
  go_ret
  exact ⟨rfl, rfl⟩
set_option maxHeartbeats 1000000 in
theorem slot_Pages_zero {b : Nat} {w : World} (h3 : w.cell? ⟨b, 3, none⟩ = some (.int .i64 0)) : Calls Try.prog 31 #[.pointer (some ⟨b, 0, none⟩)] w fun e w' => e = .returned (.int .i64 0) ∧ w = w' := by
  have H3 := Lib.hid h3
  go_enter Try.func31, Try.ntmps31
  go_wp2_with fail
  refine (slot_none_zero H3.out).mono ?_
  rintro e w1000 ⟨rfl, rfl⟩
  go_wp2_with fail
  go_ret
  exact ⟨rfl, rfl⟩
set_option maxHeartbeats 1000000 in
theorem slot_Of_zero {b : Nat} (k : Int) {w : World} (h3 : w.cell? ⟨b, 3, none⟩ = some (.int .i64 0)) : Calls Try.prog 28 #[.pointer (some ⟨b, 0, none⟩), .int .i64 k] w fun e w' => e = .returned (.tuple #[.int .i64 0, .int .i64 0, .int .i64 1]) ∧ w = w' := by
  have H3 := Lib.hid h3
  go_enter Try.func28, Try.ntmps28
  go_wp2_with fail
  refine (slot_none_zero H3.out).mono ?_
  rintro e w1000 ⟨rfl, rfl⟩
  go_wp2_with fail
  go_ret3
  exact ⟨rfl, rfl⟩
set_option maxHeartbeats 1000000 in
theorem slot_In_nil (k : Int) {w : World} : Calls Try.prog 60 #[.pointer none, .int .i64 k] w fun e w' => e = .returned (.tuple #[.int .i64 0, .int .i64 0, .int .i64 1]) ∧ w = w' := by
  go_enter Try.func60, Try.ntmps60
  go_wp2_with fail
  refine (slot_none_nil).mono ?_
  rintro e w1000 ⟨rfl, rfl⟩
  go_wp2_with fail
  go_ret3
  exact ⟨rfl, rfl⟩
set_option maxHeartbeats 1000000 in
theorem slot_find_nil (s : Int) {w : World} : Calls Try.prog 81 #[.pointer none, .int .i64 s] w fun e w' => e = .returned (.tuple #[.int .i64 0, .int .i64 0, .int .i64 1]) ∧ Ext w w' := by
  go_enter Try.func81, Try.ntmps81
  go_wp2_with fail
  refine (slot_none_nil).mono ?_
  rintro e w1000 ⟨rfl, rfl⟩
  go_wp2_with fail
  go_ret3
  exact ⟨rfl, (Ext.refl _).alloc _⟩
set_option maxHeartbeats 1000000 in
theorem slot_Addr_nil (s : Int) {w : World} : Calls Try.prog 57 #[.pointer none, .int .i64 s] w fun e w' => e = .returned (.tuple #[.int .i64 0, .int .i64 1]) ∧ Ext w w' := by
  go_enter Try.func57, Try.ntmps57
  go_wp2_with fail
  refine (slot_find_nil _).mono ?_
  rintro e w1 ⟨rfl, x⟩
  go_wp2_with fail
  go_ret2
  exact ⟨rfl, x⟩
set_option maxHeartbeats 1000000 in
theorem slot_Size_no {b gp : Nat} {c : Conf} {t : Nat} {s : Int} {w : World} (h : PlanAt w b gp c t) (hk : s < 0 ∨ sS c t c.cl.length ≤ s) :
    Calls Try.prog 67 #[.pointer (some ⟨b, 0, none⟩), .int .i64 s] w fun e w' => e = .returned (.tuple #[.int .i64 0, .int .i64 2]) ∧ Ext w w' := by
  have H := Lib.hid h; have HK := Lib.hid hk
  clear h hk
  go_enter Try.func67, Try.ntmps67
  go_wp2_with fail
  refine (slot_find_no H.out HK.out).mono ?_
  rintro e w1 ⟨rfl, x⟩
  go_wp2_with fail
  go_ret2
  exact ⟨rfl, x⟩
set_option maxHeartbeats 1000000 in
theorem slot_Page_no {b gp : Nat} {c : Conf} {t : Nat} {s : Int} {w : World} (h : PlanAt w b gp c t) (hk : s < 0 ∨ sS c t c.cl.length ≤ s) :
    Calls Try.prog 59 #[.pointer (some ⟨b, 0, none⟩), .int .i64 s] w fun e w' => e = .returned (.tuple #[.int .i64 0, .int .i64 2]) ∧ Ext w w' := by
  have H := Lib.hid h; have HK := Lib.hid hk
  clear h hk
  go_enter Try.func59, Try.ntmps59
  go_wp2_with fail
  refine (slot_find_no H.out HK.out).mono ?_
  rintro e w1 ⟨rfl, x⟩
  go_wp2_with fail
  go_ret2
  exact ⟨rfl, x⟩

set_option maxRecDepth 100000 in
set_option maxHeartbeats 8000000 in
theorem slot_At_zero {b : Nat} (addr : Int) {w : World} (h3 : w.cell? ⟨b, 3, none⟩ = some (.int .i64 0)) :
    Calls Try.prog 26 #[.pointer (some ⟨b, 0, none⟩), .int .i64 addr] w fun e w' => e = .returned (.tuple #[.int .i64 0, .int .i64 1]) ∧ Ext w w' := by
  have H3 := Lib.hid h3
  clear h3
  refine (callsIn_wide (n := 3)).1 ?_
  refine callsIn_of_wp_marks Try.func26 rfl trivial ?_ rfl
  simp only [Try.ntmps26, List.size_toArray, List.length_cons, List.length_nil, Nat.reduceAdd, Nat.reduceSub, Array.replicate_succ, Array.replicate_zero, List.push_toArray, List.append_toArray, List.nil_append, List.cons_append]
  obtain ⟨z, hz⟩ : ∃ z, w.heap.size = z := ⟨_, rfl⟩
  obtain ⟨W0, hW0⟩ : ∃ W0, ((w.alloc (.cells #[.int .i64 addr] 3)).alloc (.cells #[.int .i64 0] 3)).alloc (.cells #[.int .i64 0] 31) = W0 := ⟨_, rfl⟩
  have x0 : Ext w W0 := by rw [← hW0]; exact (((Ext.refl _).alloc _).alloc _).alloc _
  obtain ⟨k0, ⟨k1, f1⟩, k2, f2⟩ := (by rw [← hW0, ← hz]; exact three_new w _ _ _ _ _ _ : W0.cell? ⟨z, 0, none⟩ = some (.int .i64 addr) ∧ (W0.cell? ⟨z + 1, 0, none⟩ = some (.int .i64 0) ∧ W0.frozen? ⟨z + 1, 0, none⟩ = false) ∧ (W0.cell? ⟨z + 1 + 1, 0, none⟩ = some (.int .i64 0) ∧ W0.frozen? ⟨z + 1 + 1, 0, none⟩ = false))
  have HZ := Lib.hid hz
  gi_wp2_with (first | (refine ⟨trivial, ?_⟩; gi_at_call 65; refine (callsIn_wide.2 (slot_none_zero (x0.cell H3.out))).mono ?_; rintro e w' ⟨rfl, rfl⟩))
  have n12 : (⟨z + 1, 0, none⟩ : Addr) ≠ ⟨z + 1 + 1, 0, none⟩ := by intro e; have := congrArg Addr.block e; simp at this
  have d1 : ((W0.setCell ⟨z + 1, 0, none⟩ (.int .i64 0)).setCell ⟨z + 1 + 1, 0, none⟩ (.int .i64 1)).cell? ⟨z + 1, 0, none⟩ = some (.int .i64 0) := by
    rw [World.cell?_setCell_other _ _ _ _ n12.symm]; exact World.cell?_setCell_same _ _ _ k1
  have d2 : ((W0.setCell ⟨z + 1, 0, none⟩ (.int .i64 0)).setCell ⟨z + 1 + 1, 0, none⟩ (.int .i64 1)).cell? ⟨z + 1 + 1, 0, none⟩ = some (.int .i64 1) :=
    World.cell?_setCell_same (u := .int .i64 0) _ _ _ (by rw [World.cell?_setCell_other _ _ _ _ n12]; exact k2)
  refine ⟨.tuple #[.int .i64 0, .int .i64 1], ?_, rfl, (x0.setCell (p := ⟨z + 1, 0, none⟩) (by have := HZ.out; simp; omega) _).setCell (p := ⟨z + 1 + 1, 0, none⟩) (by have := HZ.out; simp; omega) _⟩
  simp [results, Try.f26, go_sem, d1, d2]

set_option maxRecDepth 100000 in
set_option maxHeartbeats 8000000 in
theorem slot_At_no {b gp : Nat} {c : Conf} {t : Nat} {addr : Int} {w : World} (h : PlanAt w b gp c t) (ha : addr < 0 ∨ sG c t c.cl.length * c.page ≤ addr) :
    Calls Try.prog 26 #[.pointer (some ⟨b, 0, none⟩), .int .i64 addr] w fun e w' => e = .returned (.tuple #[.int .i64 0, .int .i64 7]) ∧ Ext w w' := by
  have H := Lib.hid h
  have h3 := h.page
  have pg := h.pg2
  obtain ⟨pg0, pg1⟩ := pg
  have gl := h.ok.sG_le h.ti (Nat.le_refl _)
  have gq := mul_bd (a := sG c t c.cl.length) (b := c.page) (A := 16384) (B := 64) (by have := gl.1; omega) (by have := gl.2; have := h.ok.cl.most; omega) (by omega) pg1
  clear h gl
  refine (callsIn_wide (n := 3)).1 ?_
  refine callsIn_of_wp_marks Try.func26 rfl trivial ?_ rfl
  simp only [Try.ntmps26, List.size_toArray, List.length_cons, List.length_nil, Nat.reduceAdd, Nat.reduceSub, Array.replicate_succ, Array.replicate_zero, List.push_toArray, List.append_toArray, List.nil_append, List.cons_append]
  obtain ⟨z, hz⟩ : ∃ z, w.heap.size = z := ⟨_, rfl⟩
  obtain ⟨W0, hW0⟩ : ∃ W0, ((w.alloc (.cells #[.int .i64 addr] 3)).alloc (.cells #[.int .i64 0] 3)).alloc (.cells #[.int .i64 0] 31) = W0 := ⟨_, rfl⟩
  have x0 : Ext w W0 := by rw [← hW0]; exact (((Ext.refl _).alloc _).alloc _).alloc _
  obtain ⟨k0, ⟨k1, f1⟩, k2, f2⟩ := (by rw [← hW0, ← hz]; exact three_new w _ _ _ _ _ _ : W0.cell? ⟨z, 0, none⟩ = some (.int .i64 addr) ∧ (W0.cell? ⟨z + 1, 0, none⟩ = some (.int .i64 0) ∧ W0.frozen? ⟨z + 1, 0, none⟩ = false) ∧ (W0.cell? ⟨z + 1 + 1, 0, none⟩ = some (.int .i64 0) ∧ W0.frozen? ⟨z + 1 + 1, 0, none⟩ = false))
  have HZ := Lib.hid hz
  gi_wp2_with (first | (refine ⟨trivial, ?_⟩; gi_at_call 65; refine (callsIn_wide.2 (slot_none (H.out.ext x0))).mono ?_; rintro e w' ⟨rfl, rfl⟩))
  have xd : Ext w W0.drew := x0.drew
  by_cases h0 : addr < 0
  · have t0 : decide (addr < 0) = true := by simp; omega
    refine wpIn_region_noPanic ?_
    first | gi_region_with (refine ⟨trivial, ?_⟩) | fail
    all_goals
      refine NoPanic.normal ?_
      have c1 := (Ext.refl _).drew.cell k1
      have c2 := (Ext.refl _).drew.cell k2
      have g1 := (Ext.refl _).drew.frozenAt k1 f1
      have g2 := (Ext.refl _).drew.frozenAt k2 f2
      gi_wp2
      have n12 : (⟨z + 1, 0, none⟩ : Addr) ≠ ⟨z + 1 + 1, 0, none⟩ := by intro e; have := congrArg Addr.block e; simp at this
      have d1 : ((W0.drew.setCell ⟨z + 1, 0, none⟩ (.int .i64 0)).setCell ⟨z + 1 + 1, 0, none⟩ (.int .i64 7)).cell? ⟨z + 1, 0, none⟩ = some (.int .i64 0) := by
        rw [World.cell?_setCell_other _ _ _ _ n12.symm]; exact World.cell?_setCell_same _ _ _ c1
      have d2 : ((W0.drew.setCell ⟨z + 1, 0, none⟩ (.int .i64 0)).setCell ⟨z + 1 + 1, 0, none⟩ (.int .i64 7)).cell? ⟨z + 1 + 1, 0, none⟩ = some (.int .i64 7) :=
        World.cell?_setCell_same (u := .int .i64 0) _ _ _ (by rw [World.cell?_setCell_other _ _ _ _ n12]; exact c2)
      have e1 : (W0.setCell ⟨z + 1, 0, none⟩ (.int .i64 0)).cell? ⟨z + 1, 0, none⟩ = some (.int .i64 0) := World.cell?_setCell_same _ _ _ k1
      have e2 : ((W0.setCell ⟨z + 1, 0, none⟩ (.int .i64 0)).setCell ⟨z + 1 + 1, 0, none⟩ (.int .i64 7)).cell? ⟨z + 1 + 1, 0, none⟩ = some (.int .i64 7) :=
        World.cell?_setCell_same (u := .int .i64 0) _ _ _ (by rw [World.cell?_setCell_other _ _ _ _ n12]; exact k2)
      refine ⟨.tuple #[.int .i64 0, .int .i64 7], ?_, rfl, ((xd).setCell (p := ⟨z + 1, 0, none⟩) (by have := HZ.out; simp; omega) _).setCell (p := ⟨z + 1 + 1, 0, none⟩) (by have := HZ.out; simp; omega) _⟩
      simp [results, Try.f26, go_sem, e1, e2]
  · have t0 : decide (addr < 0) = false := by simp; omega
    have t1 : decide (sG c t c.cl.length * c.page ≤ addr) = true := by simp; omega
    have a0 : 0 ≤ addr := by omega
    refine wpIn_region_noPanic ?_
    gi_region_with (refine ⟨trivial, ?_⟩; gi_at_call 32; refine (callsIn_wide.2 (slot_Words (H.out.ext xd))).mono ?_; rintro e W1 ⟨rfl, x1⟩; have c0 := x1.cell ((Ext.refl _).drew.cell k0); have c1 := x1.cell ((Ext.refl _).drew.cell k1); have c2 := x1.cell ((Ext.refl _).drew.cell k2); have g1 := x1.frozenAt ((Ext.refl _).drew.cell k1) ((Ext.refl _).drew.frozenAt k1 f1); have g2 := x1.frozenAt ((Ext.refl _).drew.cell k2) ((Ext.refl _).drew.frozenAt k2 f2))
    all_goals
      refine NoPanic.normal ?_
      gi_wp2
      have n12 : (⟨z + 1, 0, none⟩ : Addr) ≠ ⟨z + 1 + 1, 0, none⟩ := by intro e; have := congrArg Addr.block e; simp at this
      have d1 : ((W1.setCell ⟨z + 1, 0, none⟩ (.int .i64 0)).setCell ⟨z + 1 + 1, 0, none⟩ (.int .i64 7)).cell? ⟨z + 1, 0, none⟩ = some (.int .i64 0) := by
        rw [World.cell?_setCell_other _ _ _ _ n12.symm]; exact World.cell?_setCell_same _ _ _ c1
      have d2 : ((W1.setCell ⟨z + 1, 0, none⟩ (.int .i64 0)).setCell ⟨z + 1 + 1, 0, none⟩ (.int .i64 7)).cell? ⟨z + 1 + 1, 0, none⟩ = some (.int .i64 7) :=
        World.cell?_setCell_same (u := .int .i64 0) _ _ _ (by rw [World.cell?_setCell_other _ _ _ _ n12]; exact c2)
      refine ⟨.tuple #[.int .i64 0, .int .i64 7], ?_, rfl, ((xd.trans x1).setCell (p := ⟨z + 1, 0, none⟩) (by have := HZ.out; simp; omega) _).setCell (p := ⟨z + 1 + 1, 0, none⟩) (by have := HZ.out; simp; omega) _⟩
      simp [results, Try.f26, go_sem, d1, d2]

end Go.Proofs.Yteopbobhphghhaa
