/-
  The document's example of a configuration, as data and in the memory.
-/
import Derived.Test.YteopbobhphghhaaRef06
namespace Go.Proofs.Yteopbobhphghhaa
open Go.RowKit

def exC : Conf := ⟨[2, 4], 8, [⟨20, 8, 4, 1⟩, ⟨4, 1, 1, 0⟩], 1, 2, 3⟩

theorem TenAt.newb (w : World) (ts : List Ten) (vs : Array Value) (t : TypeId) (b : Nat) (hb : w.heap.size = b) (h : ∀ i, i < ts.length → vs[i * 4]? = some (.int .i64 (tnth ts i).q) ∧ vs[i * 4 + 1]? = some (.int .i64 (tnth ts i).tr) ∧ vs[i * 4 + 2]? = some (.int .i64 (tnth ts i).cp) ∧ vs[i * 4 + 3]? = some (.int .i64 (tnth ts i).sst)) :
    TenAt (w.alloc (.cells vs t)) (some ⟨b, 0, none⟩) ts := by
  subst hb
  intro i hi
  obtain ⟨h0, h1, h2, h3⟩ := h i hi
  refine ⟨_, 0, rfl, ?_, ?_, ?_, ?_⟩
  · rw [Nat.zero_add, cell_newN]; exact h0
  · rw [Nat.zero_add, cell_newN]; exact h1
  · rw [Nat.zero_add, cell_newN]; exact h2
  · rw [Nat.zero_add, cell_newN]; exact h3

def IsExample (w : World) (e : Ending) (w' : World) : Prop :=
  ∃ ca ta, e = .returned (.agg #[.slice ca 2 2, .int .i64 8, .slice ta 2 2, .int .i64 1, .int .i64 2, .int .i64 3]) ∧ CfgAt w' ca ta 2 2 exC ∧ Ext w w'

theorem CBox.mk6 {w : World} {b : Nat} {ca ta : Option Addr} {cc tc : Nat} {c : Conf} (h0 : w.cell? ⟨b, 0, none⟩ = some (.slice ca c.cl.length cc)) (h1 : w.cell? ⟨b, 1, none⟩ = some (.int .i64 c.page))
    (h2 : w.cell? ⟨b, 2, none⟩ = some (.slice ta c.ts.length tc)) (h3 : w.cell? ⟨b, 3, none⟩ = some (.int .i64 c.wk)) (h4 : w.cell? ⟨b, 4, none⟩ = some (.int .i64 c.gr)) (h5 : w.cell? ⟨b, 5, none⟩ = some (.int .i64 c.gens)) : CBox w b ca ta cc tc c := ⟨h0, h1, h2, h3, h4, h5⟩


end Go.Proofs.Yteopbobhphghhaa
