/-
  capa.Get's closure: it takes the first of a row of words, and leaves the rest.
-/
import Derived.Test.YtjdagameeopadaaCapa2
namespace Go.Proofs.Ytjdagameeopadaa
open Go.RowKit

/-- The first word is handed back; the variable holds the rest. -/
def GotPart (b : Nat) (v : Int) (l : List Int) (cap : Nat) (w : World) (e : Ending) (w' : World) : Prop :=
  ∃ a, e = .returned (.int .u64 v) ∧ w' = w.setCell ⟨b, 0, none⟩ (.slice a l.length (cap - 1)) ∧ At .u64 w' a l ∧ ∀ x o, a = some ⟨x, o, none⟩ → x ≠ b

set_option maxHeartbeats 1000000 in
theorem capa_Get1 {b : Nat} {a : Option Addr} {n cap : Nat} (l : List Int) (v : Int) {w : World} (hc : w.cell? ⟨b, 0, none⟩ = some (.slice a n cap)) (hf : w.frozen? ⟨b, 0, none⟩ = false) (h : At .u64 w a (v :: l)) (hn : n = l.length + 1) (hcap : n ≤ cap) (hm : cap ≤ maxLen) (hne : ∀ x o, a = some ⟨x, o, none⟩ → x ≠ b) :
    Calls Try.prog 45 #[.pointer (some ⟨b, 0, none⟩)] w (GotPart b v l cap w) := by
  subst hn
  unfold maxLen at hm
  obtain ⟨x, o, rfl, hx⟩ := h.pos (by simp)
  have c0 := hx 0 (by simp)
  rw [Nat.add_zero] at c0
  replace c0 : w.cell? ⟨x, o, none⟩ = some (.int .u64 v) := c0
  have HX := Lib.hid hx
  have hxb := Lib.hid (hne x o rfl)
  clear hne
  clear h hx
  by_cases h1 : cap = 1
  · obtain rfl : l = [] := List.length_eq_zero_iff.1 (by omega)
    subst h1
    go_enter Try.func45, Try.ntmps45
    go_wp2_with fail
    go_ret
    exact ⟨_, rfl, rfl, At.nil, fun y p e => by cases e; exact hxb.out⟩
  · go_enter Try.func45, Try.ntmps45
    go_wp2_with fail
    go_ret
    refine ⟨_, rfl, rfl, At.mk fun i hi => ?_, fun y p e => by cases e; exact hxb.out⟩
    rw [cell_far _ _ _ _ (by show b ≠ x; exact fun e => hxb.out e.symm), Nat.add_assoc, Nat.add_comm 1 i]
    exact HX.out (i + 1) (by simp; omega)

end Go.Proofs.Ytjdagameeopadaa
