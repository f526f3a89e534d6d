/-
  mem.on: what gives up within is told as an error.
-/
import Derived.Test.YteopbobhphghhaaMem
import Derived.Test.YteopbobhphghhaaEnt
import Derived.Defers
import Derived.Recover
import Derived.Laws.Pointers
namespace Go.Proofs.Yteopbobhphghhaa
open Go.RowKit

set_option maxRecDepth 100000 in
set_option maxHeartbeats 2000000 in
theorem on1_panicking (p : Addr) (k x : Int) (older : List PanicEntry) (w : World) (hc : w.cell? p = some (.int .i64 x)) (hz : w.frozen? p = false) :
    CallsD Try.prog 76 #[.pointer (some p)] (.panicking ({ v := .iface 31 (.int .i64 k), recovered := false } :: older)) w fun e u' w' =>
      e = .returned (.tuple #[]) ∧ u' = .panicking ({ v := .iface 31 (.int .i64 k), recovered := true } :: older) ∧ w' = w.setCell p (.int .i64 k) := by
  have hta : ∀ w : World, (Instr.typeAssert (.iface 31 (.int .i64 k)) 20 31 true).run Try.prog w = .ok (.tuple #[.int .i64 k, .bool true]) w := fun _ => by kernel_rfl
  refine callsD_of_wpS Try.func76 rfl fun c₀ cs hu => ?_
  apply wpS_seq
  apply wpS_region
  simp [wpOpsS, go_sem, recoverD, hu, Try.ntmps76, Exit.thenS]
  refine wpS_of_wp ?_
  simp only [Array.replicate_succ, Array.replicate_zero, List.push_toArray, List.append_toArray, List.nil_append, List.cons_append, List.setIfInBounds_toArray, List.set_cons_zero, List.set_cons_succ]
  go_wp2
  cases c₀
  simp_all [bodyPostS, results, Try.results76]

theorem on1_idle (p : Addr) (w : World) :
    CallsD Try.prog 76 #[.pointer (some p)] .returning w fun e u' w' => e = .returned (.tuple #[]) ∧ u' = .returning ∧ w' = w := by
  refine callsD_of_wpS Try.func76 rfl fun c₀ cs hu => ?_
  apply wpS_seq
  apply wpS_region
  simp [wpOpsS, go_sem, recoverD, hu, Try.ntmps76, Exit.thenS]
  refine wpS_of_wp ?_
  simp only [Array.replicate_succ, Array.replicate_zero, List.push_toArray, List.append_toArray, List.nil_append, List.cons_append, List.setIfInBounds_toArray, List.set_cons_zero, List.set_cons_succ]
  go_wp2
  cases c₀
  simp_all [bodyPostS, results, Try.results76]

/-- A call within 'on': it ends well, or gives up. -/
def within (k : Int) (e : Ending) : Prop := (k = 0 ∧ e = .returned (.tuple #[])) ∨ (k ≠ 0 ∧ e = gaveUp k)

set_option maxRecDepth 100000 in
set_option maxHeartbeats 2000000 in
theorem mem_on {g : Nat} {cs : Array Value} (k : Int) {w : World} {R : World → Prop} (hk : Enters Try.prog g)
    (h : Calls Try.prog g cs (w.alloc (.cells #[.int .i64 0] 31)) fun e w' => within k e ∧ R w' ∧ w'.cell? ⟨w.heap.size, 0, none⟩ = some (.int .i64 0) ∧ w'.frozen? ⟨w.heap.size, 0, none⟩ = false) :
    Calls Try.prog 42 #[.func (.func g) #[] cs] w fun e w' => e = .returned (.int .i64 k) ∧ ∃ w1, R w1 ∧ w' = w1.setCell ⟨w.heap.size, 0, none⟩ (.int .i64 k) := by
  have hmf : ∀ (fn : Fn) (first cap : Array Value) (w : World), (Instr.makeFunc fn first cap).run Try.prog w = .ok (.func fn first cap) w := fun _ _ _ _ => rfl
  unfold Enters at hk
  have HC := Lib.hid h
  clear h
  go_enter_defers Try.func42, Try.ntmps42
  go_wp2_with fail
  refine HC.out.mono ?_
  rintro e w1 ⟨hw, hr, hc, hz⟩
  have HR := Lib.hid hr
  clear hr HC
  rcases hw with ⟨rfl, rfl⟩ | ⟨hk0, rfl⟩
  · go_wp2_with fail
    refine leaves_cons (f := 76) (args := #[.pointer (some ⟨w.heap.size, 0, none⟩)]) (by simp) (by simp [go_sem]) ?_
    refine (on1_idle ⟨w.heap.size, 0, none⟩ _).mono ?_
    rintro e u' w'' ⟨rfl, rfl, rfl⟩
    have hc2 := World.cell?_setCell_same w1 ⟨w.heap.size, 0, none⟩ (.int .i64 0) hc
    simp [Leaves, settle, results, Try.results42, go_sem, hc2]
    exact ⟨w1, HR.out, rfl⟩
  · unfold gaveUp
    refine leaves_cons (f := 76) (args := #[.pointer (some ⟨w.heap.size, 0, none⟩)]) (by simp) (by simp [go_sem]) ?_
    refine (on1_panicking ⟨w.heap.size, 0, none⟩ k 0 [] _ hc hz).mono ?_
    rintro e u' w'' ⟨rfl, rfl, rfl⟩
    have hc2 := World.cell?_setCell_same w1 ⟨w.heap.size, 0, none⟩ (.int .i64 k) hc
    simp [Leaves, settle, results, Try.results42, go_sem, hc2]
    exact ⟨w1, HR.out, rfl⟩

/-- .. of worlds that differ in some blocks. -/
theorem mem_on' {g z : Nat} {cs : Array Value} (k : Int) {w : World} {P : Nat → Prop} {S : World → Prop} (hk : Enters Try.prog g) (hz : w.heap.size = z) (hP : ¬ P z)
    (h : Calls Try.prog g cs (w.alloc (.cells #[.int .i64 0] 31)) fun e w' => within k e ∧ Chg P (w.alloc (.cells #[.int .i64 0] 31)) w' ∧ S w') (hS : ∀ w', S w' → S (w'.setCell ⟨z, 0, none⟩ (.int .i64 k))) :
    Calls Try.prog 42 #[.func (.func g) #[] cs] w fun e w' => e = .returned (.int .i64 k) ∧ Chg P w w' ∧ S w' := by
  subst hz
  have c0 := cell_new1 w (.int .i64 0) 31
  have f0 : (w.alloc (.cells #[.int .i64 0] 31)).frozen? ⟨w.heap.size, 0, none⟩ = false := World.frozen?_alloc_at _ _ _ _ rfl
  refine (mem_on (R := fun w' => Chg P w w' ∧ S w') k hk (h.mono ?_)).mono ?_
  · rintro e w' ⟨h1, h2, h3⟩
    exact ⟨h1, ⟨((Chg.refl P w).alloc _).trans h2, h3⟩, h2.cell hP c0, by rw [h2.frozen (p := ⟨w.heap.size, 0, none⟩) (cell_lt c0) hP]; exact f0⟩
  · rintro e w' ⟨rfl, w1, ⟨h1, h2⟩, rfl⟩
    exact ⟨rfl, h1.setCell (.inr (Nat.le_refl _)) _, hS _ h2⟩

end Go.Proofs.Yteopbobhphghhaa
