/-
  slices.Clone of words: words of its own.
-/
import Derived.Test.YteopbobhphghhaaOwnI
import Derived.Test.YteopbobhphghhaaEnt
import Derived.Test.YteopbobhphghhaaChecked
import Derived.Outline
import Derived.BigQuiet
import Derived.Deep.QuietTactic
import Derived.Deep.OwnRows
import Derived.Lib.SliceRun
import Derived.Laws.OwnMore
namespace Go.Proofs.Yteopbobhphghhaa
open Go.RowKit

theorem info_w64 : (Try.prog.info? 34).map (fun i => (i.zero, i.size, i.bytes)) = some (some (.int .u64 0), 1, 8) := by kernel_rfl
set_option maxHeartbeats 1000000 in
theorem clone_words {a : Option Addr} {cap : Nat} (xs : List Int) {w : World} (h : At .u64 w a xs) (hb : xs.length * 8 ≤ 140737488355328) :
    Calls Try.prog 44 #[.slice a xs.length cap] w (ClonedInts .u64 xs w) := by
  obtain ⟨i0, hi0, hz0, hz1, hz2⟩ := info_parts info_w64
  have he : ∀ (a : Option Addr) n c (w : World), (binOp .eql 38 (.slice a n c) (.slice none 0 0)).run Try.prog w = .ok (.bool a.isNone) w := fun a n c w => Lib.run_eql_slice_nil w _ _ a n c 0 0 Try.underlying38
  cases a with
  | none =>
    have hl : xs.length = 0 := by
      rcases Nat.eq_zero_or_pos xs.length with c | c
      · exact c
      · obtain ⟨b, o, e, _⟩ := h.pos c; cases e
    obtain rfl := List.length_eq_zero_iff.1 hl
    clear h
    go_enter Try.func44, Try.ntmps44
    go_wp2_with fail
    go_ret
    exact ⟨none, 0, rfl, ⟨fun i hi => absurd hi (Nat.not_lt_zero _), Nat.le_refl _, Nat.zero_le _, fun hi => absurd hi (Nat.lt_irrefl 0)⟩, Ext.refl w⟩
  | some ad =>
    have hnews : ∀ j u, (ncs .u64 xs)[j]? = some u → w.cell? (ad.add j) = some u := by
      intro j u hj
      have hl := (List.getElem?_eq_some_iff.1 hj).1
      rw [ncs_len] at hl
      obtain ⟨b, o, e, hc⟩ := h.pos (by omega)
      cases e
      exact ncs_news hc j u hj
    have HN := Lib.hid hnews; clear hnews h
    have hn63 : xs.length ≤ maxLen := by unfold maxLen; omega
    have HM := Lib.hid hn63; clear hn63
    go_enter Try.func44, Try.ntmps44
    go_wp2_with (at_builtin; refine wpList_append_own _ rfl (.tmp 5) (.tmp 6) 38 rfl w.heap.size 34 i0 (.int .u64 0) 1 8 Try.underlying38 hi0 hz0 hz1 hz2 rfl (by decide) (.slice (some ⟨w.heap.size, 0, none⟩) 0 0) 0 [] rfl (World.ownsRow_made _ #[] 0 (Nat.le_refl _) (by decide) rfl) ad xs.length cap (ncs .u64 xs) rfl (by rw [ncs_len, Nat.mul_one]) (fun j u hj => cell_alloc (HN.out j u hj) _) (ncs_one _ _) (by rw [Nat.zero_add]; exact HM.out) (by rw [Nat.zero_add]; exact hb) (by simp) ?_; intro v' w1 hown hgrow hnil)
    go_ret
    rw [Nat.zero_add, List.nil_append] at hown
    have hx : Ext w w1 := Ext.of (((Ext.refl w).alloc (.cells #[] 34)).below.grown hgrow (by simp) (fun k e => by cases e; exact Nat.le_refl _))
    obtain ⟨a', c', rfl, hn⟩ := newInts_of hown
    exact ⟨a', c', rfl, hn, hx⟩

end Go.Proofs.Yteopbobhphghhaa
