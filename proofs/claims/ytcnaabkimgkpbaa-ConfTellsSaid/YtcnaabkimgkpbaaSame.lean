/-
  commonageref06.Same of one configuration that lies in memory twice: it answers true.
-/
import Derived.Test.YtcnaabkimgkpbaaOwnW
namespace Go.Proofs.Ytcnaabkimgkpbaa
open Go.RowKit

set_option maxHeartbeats 4000000 in
theorem ref06_Same {ca ta ca' ta' : Option Addr} {cc tc cc' tc' : Nat} (c : Conf) {w : World} (h : CfgAt w ca ta cc tc c) (h' : CfgAt w ca' ta' cc' tc' c) (b1 : c.cl.length ≤ 50) (b2 : c.ts.length ≤ 50) :
    Calls Try.prog 31 #[.agg #[.slice ca c.cl.length cc, .int .i64 c.page, .slice ta c.ts.length tc, .int .i64 c.wk, .int .i64 c.gr, .int .i64 c.gens], .agg #[.slice ca' c.cl.length cc', .int .i64 c.page, .slice ta' c.ts.length tc', .int .i64 c.wk, .int .i64 c.gr, .int .i64 c.gens]] w fun e w' => e = .returned (.bool true) ∧ Ext w w' := by
  have cm := h.cm; have tm := h.tm
  unfold maxLen at cm tm
  have H := Lib.hid h; have H' := Lib.hid h'; clear h h'
  have hx : Ext w ((w.alloc (.cells #[.slice ca c.cl.length cc, .int .i64 c.page, .slice ta c.ts.length tc, .int .i64 c.wk, .int .i64 c.gr, .int .i64 c.gens] 36)).alloc (.cells #[.slice ca' c.cl.length cc', .int .i64 c.page, .slice ta' c.ts.length tc', .int .i64 c.wk, .int .i64 c.gr, .int .i64 c.gens] 36)) := ((Ext.refl w).alloc _).alloc _
  have S1 : Six ((w.alloc (.cells #[.slice ca c.cl.length cc, .int .i64 c.page, .slice ta c.ts.length tc, .int .i64 c.wk, .int .i64 c.gr, .int .i64 c.gens] 36)).alloc (.cells #[.slice ca' c.cl.length cc', .int .i64 c.page, .slice ta' c.ts.length tc', .int .i64 c.wk, .int .i64 c.gr, .int .i64 c.gens] 36)) w.heap.size (.slice ca c.cl.length cc) (.int .i64 c.page) (.slice ta c.ts.length tc) (.int .i64 c.wk) (.int .i64 c.gr) (.int .i64 c.gens) := (Six.new _ _ _ _ _ _ _ _ rfl).ext ((Ext.refl _).alloc _)
  have S2 : Six ((w.alloc (.cells #[.slice ca c.cl.length cc, .int .i64 c.page, .slice ta c.ts.length tc, .int .i64 c.wk, .int .i64 c.gr, .int .i64 c.gens] 36)).alloc (.cells #[.slice ca' c.cl.length cc', .int .i64 c.page, .slice ta' c.ts.length tc', .int .i64 c.wk, .int .i64 c.gr, .int .i64 c.gens] 36)) (w.heap.size + 1) (.slice ca' c.cl.length cc') (.int .i64 c.page) (.slice ta' c.ts.length tc') (.int .i64 c.wk) (.int .i64 c.gr) (.int .i64 c.gens) := Six.new _ _ _ _ _ _ _ _ (by simp)
  go_enter Try.func31, Try.ntmps31
  go_wp2_with fail
  go_loopw [5] (fun i wr => ∃ k : Nat, k ≤ c.cl.length ∧ i = .int .i64 k ∧ Ext ((w.alloc (.cells #[.slice ca c.cl.length cc, .int .i64 c.page, .slice ta c.ts.length tc, .int .i64 c.wk, .int .i64 c.gr, .int .i64 c.gens] 36)).alloc (.cells #[.slice ca' c.cl.length cc', .int .i64 c.page, .slice ta' c.ts.length tc', .int .i64 c.wk, .int .i64 c.gr, .int .i64 c.gens] 36)) wr) (fun i _ => c.cl.length - (intOf i).toNat)
  case atStart => exact ⟨0, Nat.zero_le _, rfl, Ext.refl _⟩
  case round =>
    obtain ⟨k, hk, rfl, h1⟩ := hrel
    obtain ⟨wo, rfl⟩ : ∃ wo : World, wo = wr := ⟨_, rfl⟩
    obtain ⟨b0, b1, b2, b3, b4, b5, bf⟩ := S1.ext h1
    obtain ⟨d0, d1, d2, d3, d4, d5, df⟩ := S2.ext h1
    clear bf df
    by_cases hlt : k < c.cl.length
    · obtain ⟨cb, co, rfl, hc⟩ := H.out.cl.pos (by omega)
      obtain ⟨cb', co', rfl, hc'⟩ := H'.out.cl.pos (by omega)
      have z1 := (hx.trans h1).cell (hc k hlt)
      have z2 := (hx.trans h1).cell (hc' k hlt)
      clear hc hc'
      go_wp2_with fail
      go_quiet (fail)
      go_wp2_with fail
      go_roundw
      case rel => exact ⟨k + 1, by omega, by go_num, h1.drewN _⟩
      case measure => simp [intOf]; omega
    · go_wp2_with fail
      clear b0 b1 b2 b3 b4 b5 d0 d1 d2 d3 d4 d5
      go_loopw [6] (fun i wr => ∃ j : Nat, j ≤ c.ts.length ∧ i = .int .i64 j ∧ Ext ((w.alloc (.cells #[.slice ca c.cl.length cc, .int .i64 c.page, .slice ta c.ts.length tc, .int .i64 c.wk, .int .i64 c.gr, .int .i64 c.gens] 36)).alloc (.cells #[.slice ca' c.cl.length cc', .int .i64 c.page, .slice ta' c.ts.length tc', .int .i64 c.wk, .int .i64 c.gr, .int .i64 c.gens] 36)) wr) (fun i _ => c.ts.length - (intOf i).toNat)
      case atStart => exact ⟨0, Nat.zero_le _, rfl, h1⟩
      case round =>
        clear h1
        obtain ⟨j, hj, rfl, h1⟩ := hrel
        obtain ⟨b0, b1, b2, b3, b4, b5, bf⟩ := S1.ext h1
        obtain ⟨d0, d1, d2, d3, d4, d5, df⟩ := S2.ext h1
        clear bf df
        by_cases hjlt : j < c.ts.length
        · obtain ⟨tb, to_, rfl, ht⟩ := H.out.ts.pos (by omega)
          obtain ⟨tb', to', rfl, ht'⟩ := H'.out.ts.pos (by omega)
          obtain ⟨z1, z2, z3, z4⟩ := ht j hjlt
          obtain ⟨y1, y2, y3, y4⟩ := ht' j hjlt
          replace z1 := (hx.trans h1).cell z1; replace z2 := (hx.trans h1).cell z2; replace z3 := (hx.trans h1).cell z3; replace z4 := (hx.trans h1).cell z4
          replace y1 := (hx.trans h1).cell y1; replace y2 := (hx.trans h1).cell y2; replace y3 := (hx.trans h1).cell y3; replace y4 := (hx.trans h1).cell y4
          clear ht ht'
          go_wp2_with fail
          go_quiet (fail)
          go_wp2_with fail
          go_roundw
          case rel => exact ⟨j + 1, by omega, by go_num, h1.drewN _⟩
          case measure => simp [intOf]; omega
        · go_wp2_with fail
          go_ret
          exact ⟨rfl, hx.trans h1⟩

end Go.Proofs.Ytcnaabkimgkpbaa
