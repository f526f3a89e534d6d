/-
  pins.New.
-/
import Derived.Test.YtfhnjecnamgpkaaDoorPins2
namespace Go.Proofs.YtfhnjecnamgpkaaDoor
open Go.RowKit

theorem info_w8 : (Tryd.prog.info? 5).map (fun i => (i.zero, i.size, i.bytes)) = some (some (.int .u8 0), 1, 1) := by kernel_rfl
theorem make_counts (n : Nat) (h : n ≤ 65536) : ∀ W : World, (Instr.makeSlice 76 (.int .i64 (n : Int)) (.int .i64 (n : Int))).run Tryd.prog W = .ok (.slice (some ⟨W.heap.size, 0, none⟩) n n) (W.alloc (.cells (madeCells #[.int .u8 0] n) 5)) := by
  intro W
  exact run_make_row' 76 5 (.int .u8 0) 1 Tryd.underlying76 info_w8 rfl .i64 .i64 n (by omega) (by omega) W
theorem pbs_zero (n : Nat) : pbs (List.replicate n 0) = List.replicate n false := by unfold pbs; simp

/-- What New hands back. -/
def PinNew (n : Nat) (w : World) (e : Ending) (w' : World) : Prop :=
  ∃ b rb rg g, e = .returned (.tuple #[.pointer (some ⟨b, 0, none⟩), .int .i64 0]) ∧ PinAt w' b rb rg g (List.replicate n 0) ∧ w.heap.size ≤ b ∧ w.heap.size ≤ rb ∧ (0 < n → w.heap.size ≤ rg ∧ w.heap.size ≤ g) ∧ Ext w w'

theorem PinAt.newZero {w : World} {n rb rg : Nat} {t u : TypeId} (h : n ≤ 65536) (hr : RowAt w rb rg (List.replicate n false)) :
    PinAt ((w.alloc (.cells (madeCells #[.int .u8 0] n) t)).alloc (.cells #[.pointer (some ⟨rb, 0, none⟩), .slice (some ⟨w.heap.size, 0, none⟩) n n] u)) (w.heap.size + 1) rb rg w.heap.size (List.replicate n 0) := by
  have c := fun i => cell_newN (w.alloc (.cells (madeCells #[.int .u8 0] n) t)) #[.pointer (some ⟨rb, 0, none⟩), .slice (some ⟨w.heap.size, 0, none⟩) n n] u i
  simp only [World.size_alloc] at c
  have hl := hr.lt
  refine ⟨by rw [c 0]; rfl, ⟨some ⟨w.heap.size, 0, none⟩, n, by rw [c 1, List.length_replicate]; rfl, ?_, by simp, by unfold maxLen; omega, fun _ => ⟨rfl, fun o => ?_⟩⟩, ?_, ?_, ?_, by omega⟩
  · refine At.mk fun i hi => ?_
    rw [List.length_replicate] at hi
    rw [Nat.zero_add, show nth (List.replicate n (0 : Int)) i = 0 by simp [nth, List.getD, hi]]
    exact ((Ext.refl _).alloc _).cell (by rw [cell_newN, made_at hi])
  · rw [((Ext.refl _).alloc _).frozen (by simp)]; simp
  · rw [pbs_zero]; exact (hr.ext ((Ext.refl _).alloc _)).ext ((Ext.refl _).alloc _)
  · intro x hx
    have := List.eq_of_mem_replicate hx
    omega
  · intro hp
    rw [List.length_replicate] at hp
    have := hr.glt (by rw [List.length_replicate]; exact hp)
    omega

set_option maxRecDepth 100000 in
set_option maxHeartbeats 1000000 in
theorem pins_New (n : Nat) {w : World} (h : n ≤ 65536) : Calls Tryd.prog 31 #[.int .i64 n] w (PinNew n w) := by
  have hmk := make_counts n h
  have t0 : decide ((n : Int) < 0) = false := by simp
  have t1 : decide ((65536 : Int) < (n : Int)) = false := by simp; omega
  go_enter Tryd.func31, Tryd.ntmps31
  go_wp2_with fail
  refine (bits_New n h).mono ?_
  rintro e w1 ⟨rb, rg, rfl, hr, b1, g1, x1⟩
  have HR := Lib.hid hr
  have X := Lib.hid x1
  clear hr x1
  go_wp2_with fail
  go_ret2
  have hs := X.out.size
  exact ⟨w1.heap.size + 1, rb, rg, w1.heap.size, rfl, PinAt.newZero h HR.out, by omega, b1, fun hp => ⟨g1 hp, hs⟩, (X.out.alloc _).alloc _⟩
theorem pins_New_no (n : Int) {w : World} (h : n < 0 ∨ 65536 < n) : Calls Tryd.prog 31 #[.int .i64 n] w fun e w' => e = .returned (.tuple #[.pointer none, .int .i64 2]) ∧ w = w' := by
  by_cases h0 : n < 0
  · go_enter Tryd.func31, Tryd.ntmps31
    go_wp2_with fail
    go_ret2
    exact ⟨rfl, rfl⟩
  · have h1 : 65536 < n := by omega
    have h2 : 0 ≤ n := by omega
    go_enter Tryd.func31, Tryd.ntmps31
    go_wp2_with fail
    go_ret2
    exact ⟨rfl, rfl⟩

end Go.Proofs.YtfhnjecnamgpkaaDoor
