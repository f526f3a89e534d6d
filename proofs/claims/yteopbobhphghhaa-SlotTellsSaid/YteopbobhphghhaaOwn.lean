/-
  Rows of a call's own making that hold numbers or tenants: what is read of them, and what a store leaves.
-/
import Derived.Test.YteopbobhphghhaaConf
import Derived.Test.YteopbobhphghhaaOwnI
import Derived.Laws.AppendOwn
import Derived.Laws.OwnMore
import Derived.OwnWalk
import Derived.ArgAppend
namespace Go.Proofs.Yteopbobhphghhaa
open Go.RowKit

/-! ### Tenants as cells -/
def tcs : List Ten → List Value
  | [] => []
  | t :: r => .int .i64 t.q :: .int .i64 t.tr :: .int .i64 t.cp :: .int .i64 t.sst :: tcs r

theorem tcs_len : ∀ ts : List Ten, (tcs ts).length = ts.length * 4
  | [] => rfl
  | t :: r => by unfold tcs; simp [tcs_len r]; omega
theorem tcs_one : ∀ ts : List Ten, ∀ u ∈ tcs ts, u.oneCell' = true
  | [], u, h => by simp [tcs] at h
  | t :: r, u, h => by
    unfold tcs at h
    simp only [List.mem_cons] at h
    rcases h with rfl | rfl | rfl | rfl | h
    · rfl
    · rfl
    · rfl
    · rfl
    · exact tcs_one r u h
theorem tcs_at : ∀ (ts : List Ten) (i : Nat), i < ts.length →
    (tcs ts)[i * 4]? = some (.int .i64 (tnth ts i).q) ∧ (tcs ts)[i * 4 + 1]? = some (.int .i64 (tnth ts i).tr) ∧ (tcs ts)[i * 4 + 2]? = some (.int .i64 (tnth ts i).cp) ∧ (tcs ts)[i * 4 + 3]? = some (.int .i64 (tnth ts i).sst)
  | [], i, h => absurd h (Nat.not_lt_zero _)
  | t :: r, 0, _ => ⟨rfl, rfl, rfl, rfl⟩
  | t :: r, i + 1, h => by
    have ih := tcs_at r i (by simpa using h)
    have e : (i + 1) * 4 = i * 4 + 4 := by omega
    rw [e]
    exact ih
theorem tcs_news {w : World} {b o : Nat} {ts : List Ten} (h : ∀ i, i < ts.length → w.cell? ⟨b, o + i * 4, none⟩ = some (.int .i64 (tnth ts i).q) ∧ w.cell? ⟨b, o + i * 4 + 1, none⟩ = some (.int .i64 (tnth ts i).tr) ∧
    w.cell? ⟨b, o + i * 4 + 2, none⟩ = some (.int .i64 (tnth ts i).cp) ∧ w.cell? ⟨b, o + i * 4 + 3, none⟩ = some (.int .i64 (tnth ts i).sst)) :
    ∀ j u, (tcs ts)[j]? = some u → w.cell? ((⟨b, o, none⟩ : Addr).add j) = some u := by
  intro j u hj
  have hl : j < (tcs ts).length := (List.getElem?_eq_some_iff.1 hj).1
  rw [tcs_len] at hl
  have hi : j / 4 < ts.length := by omega
  obtain ⟨a0, a1, a2, a3⟩ := tcs_at ts (j / 4) hi
  obtain ⟨c0, c1, c2, c3⟩ := h (j / 4) hi
  rw [Addr.add_lit]
  have hr : j % 4 = 0 ∨ j % 4 = 1 ∨ j % 4 = 2 ∨ j % 4 = 3 := by omega
  rcases hr with hr | hr | hr | hr
  · have e : j = j / 4 * 4 := by omega
    rw [← e] at a0 c0; rw [a0] at hj; cases hj; exact c0
  · have e : j = j / 4 * 4 + 1 := by omega
    rw [← e] at a1; rw [a1] at hj; cases hj
    rw [show o + j = o + j / 4 * 4 + 1 by omega]; exact c1
  · have e : j = j / 4 * 4 + 2 := by omega
    rw [← e] at a2; rw [a2] at hj; cases hj
    rw [show o + j = o + j / 4 * 4 + 2 by omega]; exact c2
  · have e : j = j / 4 * 4 + 3 := by omega
    rw [← e] at a3; rw [a3] at hj; cases hj
    rw [show o + j = o + j / 4 * 4 + 3 by omega]; exact c3

/-- A row of tenants of the call's own. -/
theorem own_tens {w : World} {base e : Nat} {v : Value} {n : Nat} {ts : List Ten} (h : w.ownsRow base e 4 v n (tcs ts)) (h0 : 0 < n) :
    ∃ g cap, v = .slice (some ⟨g, 0, none⟩) n cap ∧ base ≤ g ∧ g < w.heap.size ∧ n = ts.length ∧ n ≤ cap ∧ cap ≤ maxLen ∧ TenAt w (some ⟨g, 0, none⟩) ts ∧ ∀ o, w.frozen? ⟨g, o, none⟩ = false := by
  have hn : n = ts.length := by have := h.1; rw [tcs_len] at this; omega
  have h' := h
  obtain ⟨_, ⟨rfl, rfl⟩ | ⟨g, cap, cur, rfl, hb, hh, hc, hm, hs, ht⟩⟩ := h
  · exact absurd h0 (Nat.lt_irrefl 0)
  · refine ⟨g, cap, rfl, hb, (Array.getElem?_eq_some_iff.1 hh).1, hn, hc, hm, ?_, fun o => h'.frozenAt o⟩
    intro i hi
    obtain ⟨a0, a1, a2, a3⟩ := tcs_at ts i hi
    refine ⟨g, 0, rfl, ?_, ?_, ?_, ?_⟩
    · rw [Nat.zero_add, h'.cellAt _ (by omega)]; exact a0
    · rw [Nat.zero_add, h'.cellAt _ (by omega)]; exact a1
    · rw [Nat.zero_add, h'.cellAt _ (by omega)]; exact a2
    · rw [Nat.zero_add, h'.cellAt _ (by omega)]; exact a3

end Go.Proofs.Yteopbobhphghhaa
