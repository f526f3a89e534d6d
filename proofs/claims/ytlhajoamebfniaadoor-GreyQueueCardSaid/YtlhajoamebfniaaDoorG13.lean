/-
  Merged texts: ArenaH.
-/
import Derived.Test.YtlhajoamebfniaaDoorG12
import Derived.Sort.QuietIn
set_option linter.unusedVariables false
set_option linter.unusedSimpArgs false
/-! arena: GiveAll that is refused. -/
namespace Go.Proofs.YtlhajoamebfniaaDoor
open Go.RowKit Go.Shelf
attribute [local go_sem] Oper.semAt_some
variable {w w' : World} {b pb gp rb rg lb lg : Nat} {c : Conf} {t : Nat} {bs bs' r : List Bool} {u : Int}

set_option maxRecDepth 100000 in
set_option maxHeartbeats 16000000 in
theorem arena_GiveAll_no {lp : Option Addr} : Calls Tryd.prog 35 #[.pointer none, .pointer lp] w fun e w' => e = .returned (.int .i64 1) ∧ Ext w w' := by
  have NA : Hid (∀ W, Calls Tryd.prog 64 #[.pointer none] W fun e w' => e = .returned (.bool true) ∧ W = w') := Lib.hid fun W => arena_none_no (.inl rfl)
  obtain ⟨z, hz⟩ : ∃ z, w.heap.size = z := ⟨_, rfl⟩
  obtain ⟨W0, hW0⟩ : ∃ W0, (w.alloc (.cells #[.pointer none] 51)).alloc (.cells #[.int .i64 0] 41) = W0 := ⟨_, rfl⟩
  have x0 : Ext w W0 := by rw [← hW0]; exact ((Ext.refl _).alloc _).alloc _
  obtain ⟨k0, k1, f1⟩ := (by rw [← hW0, ← hz]; exact two_new w _ _ _ _ : W0.cell? ⟨z, 0, none⟩ = some (.pointer none) ∧ (W0.cell? ⟨z + 1, 0, none⟩ = some (.int .i64 0) ∧ W0.frozen? ⟨z + 1, 0, none⟩ = false))
  have HZ := Lib.hid hz
  refine (callsIn_wide (n := 4)).1 ?_
  refine callsIn_of_wp_marks Tryd.func35 rfl trivial ?_ rfl
  simp only [Tryd.ntmps35, List.size_toArray, List.length_cons, List.length_nil, Nat.reduceAdd, Nat.reduceSub, Array.replicate_succ, Array.replicate_zero, List.push_toArray, List.append_toArray, List.nil_append, List.cons_append]
  gi_wp2_with (first | (refine ⟨trivial, ?_⟩; gi_at_call 64; refine (callsIn_wide.2 (NA.out _)).mono ?_; rintro e w' ⟨rfl, rfl⟩))
  have d1 := World.cell?_setCell_same W0 ⟨z + 1, 0, none⟩ (.int .i64 1) k1
  refine ⟨.int .i64 1, ?_, rfl, x0.setCell (p := ⟨z + 1, 0, none⟩) (by have := HZ.out; simp; omega) _⟩
  simp [results, Tryd.f35, go_sem, d1]

set_option maxRecDepth 100000 in
set_option maxHeartbeats 16000000 in
theorem arena_GiveAll_nil (h : ArenaAt w b pb gp rb rg c t bs) : Calls Tryd.prog 35 #[.pointer (some ⟨b, 0, none⟩), .pointer none] w fun e w' => e = .returned (.int .i64 2) ∧ Ext w w' := by
  have H := Lib.hid h
  have CPY : Hid (∀ W, Calls Tryd.prog 65 #[.pointer none] W fun e w' => e = .returned (.pointer none) ∧ W = w') := Lib.hid fun W => row_Copy_no (.inl ⟨rfl, rfl⟩)
  obtain ⟨z, hz⟩ : ∃ z, w.heap.size = z := ⟨_, rfl⟩
  obtain ⟨W0, hW0⟩ : ∃ W0, (w.alloc (.cells #[.pointer (some ⟨b, 0, none⟩)] 51)).alloc (.cells #[.int .i64 0] 41) = W0 := ⟨_, rfl⟩
  have x0 : Ext w W0 := by rw [← hW0]; exact ((Ext.refl _).alloc _).alloc _
  obtain ⟨k0, k1, f1⟩ := (by rw [← hW0, ← hz]; exact two_new w _ _ _ _ : W0.cell? ⟨z, 0, none⟩ = some (.pointer (some ⟨b, 0, none⟩)) ∧ (W0.cell? ⟨z + 1, 0, none⟩ = some (.int .i64 0) ∧ W0.frozen? ⟨z + 1, 0, none⟩ = false))
  have HZ := Lib.hid hz
  have c1 := x0.cell h.c1
  clear h
  refine (callsIn_wide (n := 4)).1 ?_
  refine callsIn_of_wp_marks Tryd.func35 rfl trivial ?_ rfl
  simp only [Tryd.ntmps35, List.size_toArray, List.length_cons, List.length_nil, Nat.reduceAdd, Nat.reduceSub, Array.replicate_succ, Array.replicate_zero, List.push_toArray, List.append_toArray, List.nil_append, List.cons_append]
  gi_wp2_with (first | (refine ⟨trivial, ?_⟩; gi_at_call 64; refine (callsIn_wide.2 (arena_none (H.out.ext x0))).mono ?_; rintro e w' ⟨rfl, rfl⟩))
  have xd : Ext w W0.drew := x0.drew
  refine wpIn_region_quiet_lit rfl (by kernel_rfl) (by kernel_rfl) ?_
  repeat (refine wpQuietIn_step (fun _ _ _ _ => trivial) (fun K hK => ?_); go_simp; first | (refine hK _ ?_; clear hK K) | (apply Exists.intro; refine ⟨fun _ => ?_, hK _ ?_⟩; (gi_at_call 65; exact CallsIn.quiet_of_same (callsIn_wide.2 (flip (CPY.out _)))); clear hK K))
  refine wpQuietIn_nil ?_
  intro _ hw'
  obtain ⟨nq, hw''⟩ := hw'
  subst hw''
  have k1' := ((Ext.refl W0).drewN nq).cell k1
  have f1' := ((Ext.refl W0).drewN nq).frozenAt k1 f1
  gi_wp2
  have d1 := World.cell?_setCell_same _ ⟨z + 1, 0, none⟩ (.int .i64 2) k1'
  refine ⟨.int .i64 2, ?_, rfl, (x0.drewN _).setCell (p := ⟨z + 1, 0, none⟩) (by have := HZ.out; simp; omega) _⟩
  simp [results, Tryd.f35, go_sem, d1]

set_option maxRecDepth 100000 in
set_option maxHeartbeats 16000000 in
theorem arena_GiveAll_len (h : ArenaAt w b pb gp rb rg c t bs) (hl : RowAt w lb lg r) (hne : r.length ≠ bs.length) : Calls Tryd.prog 35 #[.pointer (some ⟨b, 0, none⟩), .pointer (some ⟨lb, 0, none⟩)] w fun e w' => e = .returned (.int .i64 2) ∧ Ext w w' := by
  have H := Lib.hid h
  obtain ⟨N, hN⟩ : ∃ N, bs.length = N := ⟨_, rfl⟩
  obtain ⟨M, hM⟩ : ∃ M, r.length = M := ⟨_, rfl⟩
  have LN1 : Hid (∀ W, Ext w W → Calls Tryd.prog 42 #[.pointer (some ⟨lb, 0, none⟩)] W fun e w' => e = .returned (.int .i64 M) ∧ W = w') := Lib.hid fun W x => by
    have := row_Len r (hl.ext x); rw [hM] at this; exact this
  have LN2 : Hid (∀ W, Ext w W → Calls Tryd.prog 42 #[.pointer (some ⟨rb, 0, none⟩)] W fun e w' => e = .returned (.int .i64 N) ∧ W = w') := Lib.hid fun W x => by
    have := row_Len bs (h.row.ext x); rw [hN] at this; exact this
  have CPY := Lib.hid (fun W (x : Ext w W) => row_Copy r (hl.ext x))
  have te : ((M : Int) != (N : Int)) = true := by simp; omega
  obtain ⟨z, hz⟩ : ∃ z, w.heap.size = z := ⟨_, rfl⟩
  obtain ⟨W0, hW0⟩ : ∃ W0, (w.alloc (.cells #[.pointer (some ⟨b, 0, none⟩)] 51)).alloc (.cells #[.int .i64 0] 41) = W0 := ⟨_, rfl⟩
  have x0 : Ext w W0 := by rw [← hW0]; exact ((Ext.refl _).alloc _).alloc _
  obtain ⟨k0, k1, f1⟩ := (by rw [← hW0, ← hz]; exact two_new w _ _ _ _ : W0.cell? ⟨z, 0, none⟩ = some (.pointer (some ⟨b, 0, none⟩)) ∧ (W0.cell? ⟨z + 1, 0, none⟩ = some (.int .i64 0) ∧ W0.frozen? ⟨z + 1, 0, none⟩ = false))
  have HZ := Lib.hid hz
  have c1 := x0.cell h.c1
  have xd : Ext w W0.drew := x0.drew
  clear h hl hN hM hne
  refine (callsIn_wide (n := 4)).1 ?_
  refine callsIn_of_wp_marks Tryd.func35 rfl trivial ?_ rfl
  simp only [Tryd.ntmps35, List.size_toArray, List.length_cons, List.length_nil, Nat.reduceAdd, Nat.reduceSub, Array.replicate_succ, Array.replicate_zero, List.push_toArray, List.append_toArray, List.nil_append, List.cons_append]
  gi_wp2_with (first | (refine ⟨trivial, ?_⟩; gi_at_call 64; refine (callsIn_wide.2 (arena_none (H.out.ext x0))).mono ?_; rintro e w' ⟨rfl, rfl⟩))
  refine wpIn_region_noPanic ?_
  gi_region_with (first
      | (refine ⟨trivial, ?_⟩; gi_at_call 65; refine (callsIn_wide.2 (CPY.out _ xd)).mono ?_; rintro e W1 ⟨b1, g1, rfl, _, _, _, x1⟩; have k0' := x1.cell ((Ext.refl _).drew.cell k0); have k1' := x1.cell ((Ext.refl _).drew.cell k1); have f1' := x1.frozenAt ((Ext.refl _).drew.cell k1) ((Ext.refl _).drew.frozenAt k1 f1); have c1' := x1.cell ((Ext.refl _).drew.cell c1); have xx := xd.trans x1)
      | (refine ⟨trivial, ?_⟩; gi_at_call 42; first | (refine (callsIn_wide.2 (LN1.out _ xx)).mono ?_; rintro e w' ⟨rfl, rfl⟩) | (refine (callsIn_wide.2 (LN2.out _ xx)).mono ?_; rintro e w' ⟨rfl, rfl⟩) | fail))
  all_goals
    refine NoPanic.normal ?_
    gi_wp2
    have d1 := World.cell?_setCell_same _ ⟨z + 1, 0, none⟩ (.int .i64 2) k1'
    refine ⟨.int .i64 2, ?_, rfl, xx.setCell (p := ⟨z + 1, 0, none⟩) (by have := HZ.out; simp; omega) _⟩
    simp [results, Tryd.f35, go_sem, d1]
end Go.Proofs.YtlhajoamebfniaaDoor
