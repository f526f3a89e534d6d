/-
  Rows of small numbers among a law's arguments, opened, with what a bound on their bulk gives.
-/
import Derived.Test.YtfhnjecnamgpkaaDoorRows
import Derived.Test.YtfhnjecnamgpkaaDoorBitsRow
namespace Go.Proofs.YtfhnjecnamgpkaaDoor
open Go.ChangeShapes Go.WideShapes Go.ChangeAt Go.RowKit Go.Deep

theorem bulk_one {H : Type} (d : DataW H) : 1 ≤ Rows.uptoBulk d := by
  cases d with
  | lit l => cases l <;> simp [Rows.uptoBulk]
  | nil => simp [Rows.uptoBulk]
  | ptr d => simp [Rows.uptoBulk]
  | slice elems spare => simp [Rows.uptoBulk]
  | agg parts => simp [Rows.uptoBulk]
  | iface t d => simp [Rows.uptoBulk]
  | map entries => simp [Rows.uptoBulk]
  | held h => simp [Rows.uptoBulk]
theorem bulk_len {H : Type} : ∀ l : List (DataW H), l.length ≤ Rows.uptoBulkAll l
  | [] => by simp
  | x :: r => by have := bulk_one x; have := bulk_len r; simp only [Rows.uptoBulkAll, List.length_cons]; omega

theorem open_u16k {H : Type} {enc : TypeId × Value → H} {w : World} {base b0 : Nat} {v : Value} {d : DataW H} {p : List MemPlace}
    (hv : Value.okWide Tryd.prog w .any b0 23 v) (h : DataW.Trod enc Tryd.prog w base (fun _ => true) true 23 v d p) :
    ∃ (a : Option Addr) (cap : Nat) (l : List Int), v = .slice a l.length cap ∧ At .u16 w a l ∧ l.length ≤ Rows.uptoBulk d ∧ (∀ x ∈ l, 0 ≤ x ∧ x ≤ 65535) ∧ (a = none → cap = 0) := by
  obtain ⟨a, cap, l, e, h1, h2, h3⟩ := open_u16s hv h
  refine ⟨a, cap, l, e, h1, ?_, h3, ?_⟩
  · subst e
    obtain ⟨fuel, hf⟩ := h
    rcases open_slice Tryd.underlying23 hf with ⟨h0, _⟩ | ⟨a', len, cap', m, n, D, Pl, hcs, _, _, _, hm, hx, _⟩
    · simp [Value.cells] at h0
      rw [h0.2.1]; exact Nat.zero_le _
    · simp [Value.cells] at hcs
      have hd : d = DataW.slice ((List.range len).map D) ((List.range (m - len)).map fun j => D (len + j)) := congrArg Prod.fst hx
      rw [hd]
      have := bulk_len ((List.range len).map D)
      simp only [List.length_map, List.length_range] at this
      simp only [Rows.uptoBulk]
      rw [hcs.2.1]
      omega
  · intro ea
    subst ea e
    obtain ⟨fuel, hf⟩ := h
    rcases open_slice Tryd.underlying23 hf with ⟨h0, _⟩ | ⟨a', len, cap', m, n, D, Pl, hcs, _⟩
    · simp [Value.cells] at h0
      exact h0.2
    · simp [Value.cells] at hcs

end Go.Proofs.YtfhnjecnamgpkaaDoor
