/-
  The walk of commonagelaw06.ConfPage.
-/
import Derived.Test.YtcnaabkimgkpbaaLaw06a
import Derived.Test.YtcnaabkimgkpbaaLaw06P
namespace Go.Proofs.Ytcnaabkimgkpbaa
open Go.RowKit

theorem mod_nat {tn : Int} {n : Nat} (hn : 1 ≤ n) : ∃ i : Nat, tn % (n : Int) = i ∧ i < n := by
  have h1 := Int.emod_nonneg tn (by omega : (n : Int) ≠ 0)
  have h2 := Int.emod_lt_of_pos tn (by omega : 0 < (n : Int))
  exact ⟨(tn % n).toNat, by omega, by omega⟩

set_option maxRecDepth 100000 in
set_option maxHeartbeats 4000000 in
theorem law06_ConfPage {ca ta : Option Addr} {cc tc : Nat} (c : Conf) (tn page : Int) (w : World) (htn : 0 ≤ tn ∧ tn ≤ 255) (h : CfgAt w ca ta cc tc c) :
    Calls Try.prog 8 #[.agg #[.slice ca c.cl.length cc, .int .i64 c.page, .slice ta c.ts.length tc, .int .i64 c.wk, .int .i64 c.gr, .int .i64 c.gens], .int .u8 tn, .int .i64 page] w fun e w' => e = .returned (.bool true) ∧ Ext w w' := by
  have h1 := Ext.refl (w.alloc (.cells #[.slice ca c.cl.length cc, .int .i64 c.page, .slice ta c.ts.length tc, .int .i64 c.wk, .int .i64 c.gr, .int .i64 c.gens] 36))
  have hx := (Ext.refl w).alloc (.cells #[.slice ca c.cl.length cc, .int .i64 c.page, .slice ta c.ts.length tc, .int .i64 c.wk, .int .i64 c.gr, .int .i64 c.gens] 36)
  have tm := h.tm
  have cm := h.cm
  unfold maxLen at tm cm
  obtain ⟨t0, t255⟩ := htn
  have H := Lib.hid h; clear h
  by_cases hs : c.cl.length ≤ 50 ∧ c.ts.length ≤ 50
  · have HS := Lib.hid (show decide (c.cl.length ≤ 50 ∧ c.ts.length ≤ 50) = true by simpa using hs)
    clear hs
    by_cases h0 : kcheck c = 0
    · have ho := kcheck_ok h0
      have H0 := Lib.hid h0
      have HO := Lib.hid ho
      obtain ⟨i, hmod, hi⟩ := mod_nat (tn := tn) ho.head.2.2.1
      have t1 := ho.head.2.2.1
      have t8 := ho.head.2.2.2.1
      have c8 := ho.cl.most
      have c1 := ho.cl.pos
      clear h0 ho
      obtain ⟨pg, hpg⟩ : ∃ q, (if c.page < page then page else c.page) = q := ⟨_, rfl⟩
      have hpg1 : c.page ≤ pg := by rw [← hpg]; split <;> omega
      go_enter Try.func8, Try.ntmps8
      go_wp2_with fail
      try clear b0 b1 b2 b3 b4 b5
      refine (ref06_Small c true HS.out (H.out.ext (hx.trans h1))).mono ?_
      rintro e w1 ⟨rfl, h2⟩
      replace h1 := h1.trans h2
      clear h2
      obtain ⟨b0, b1, b2, b3, b4, b5⟩ := box6 h1
      go_wp2_with fail
      try clear b0 b1 b2 b3 b4 b5
      refine (conf_Check' c 0 H0.out (H.out.ext (hx.trans h1))).mono ?_
      rintro e w2 ⟨rfl, h2⟩
      replace h1 := h1.trans h2
      clear h2
      obtain ⟨b0, b1, b2, b3, b4, b5⟩ := box6 h1
      have hsz : w.heap.size < w2.heap.size := by have := h1.size; simp at this; omega
      go_wp2_with fail
      clear b0 b1 b2 b3 b4 b5 hpg
      have h3 := Ext.refl (w2.alloc (.cells #[.slice ca c.cl.length cc, .int .i64 pg, .slice ta c.ts.length tc, .int .i64 c.wk, .int .i64 c.gr, .int .i64 c.gens] 36))
      have hy := (hx.trans h1).alloc (.cells #[.slice ca c.cl.length cc, .int .i64 pg, .slice ta c.ts.length tc, .int .i64 c.wk, .int .i64 c.gr, .int .i64 c.gens] 36)
      have cfgo : ∀ w' : World, Ext w w' → CfgAt w' ca ta cc tc (withPage c pg) := fun w' hz => by
        have k := H.out.ext hz
        exact ⟨k.cl, k.ts, k.cm, k.tm, k.ccap, k.tcap, k.ccm, k.tcm⟩
      have CO := Lib.hid cfgo
      clear cfgo
      by_cases hp64 : pg ≤ 64
      · have hok := withPage_ok HO.out hpg1 hp64
        have HOK := Lib.hid hok
        have HK := Lib.hid ((kcheck_iff _).2 hok)
        clear hok
        refine (conf_Check' (withPage c pg) 0 HK.out (CO.out _ (hy.trans h3))).mono ?_
        rintro e w3 ⟨rfl, h2⟩
        replace h3 := h3.trans h2
        replace h1 := (h1.alloc (.cells #[.slice ca c.cl.length cc, .int .i64 pg, .slice ta c.ts.length tc, .int .i64 c.wk, .int .i64 c.gr, .int .i64 c.gens] 36)).trans h3
        clear h2
        obtain ⟨b0, b1, b2, b3, b4, b5⟩ := box6 h1
        obtain ⟨d0, d1, d2, d3, d4, d5⟩ := box6 h3
        go_wp2_with fail
        clear b0 b1 b2 b3 b4 b5 d0 d1 d2 d3 d4 d5
        go_loopw [9] (fun n wr => ∃ k : Nat, k ≤ c.cl.length ∧ n = .int .i64 k ∧ Ext (w.alloc (.cells #[.slice ca c.cl.length cc, .int .i64 c.page, .slice ta c.ts.length tc, .int .i64 c.wk, .int .i64 c.gr, .int .i64 c.gens] 36)) wr ∧ Ext (w2.alloc (.cells #[.slice ca c.cl.length cc, .int .i64 pg, .slice ta c.ts.length tc, .int .i64 c.wk, .int .i64 c.gr, .int .i64 c.gens] 36)) wr) (fun n _ => c.cl.length - (intOf n).toNat)
        case atStart => exact ⟨0, Nat.zero_le _, rfl, h1, h3⟩
        case round =>
          clear h1 h3
          obtain ⟨k, hk, rfl, h1, h3⟩ := hrel
          obtain ⟨b0, b1, b2, b3, b4, b5⟩ := box6 h1
          by_cases hlt : k < c.cl.length
          · obtain ⟨d0, d1, d2, d3, d4, d5⟩ := box6 h3
            have S1 := Lib.hid (kslots_yes (there_mk H0.out hi hlt))
            have S2 := Lib.hid (kslots_yes (there_mk HK.out (i := i) (j := k) hi hlt))
            have P1 := Lib.hid (kpages_yes (there_mk H0.out hi hlt))
            have P2 := Lib.hid (kpages_yes (there_mk HK.out (i := i) (j := k) hi hlt))
            rw [show slotsOf (withPage c pg) i k = slotsOf c i k from rfl] at S2
            obtain ⟨l1, l2⟩ := withPage_pages HO.out hpg1 hp64 hi hlt
            have bd := HO.out.bounds hi hlt
            have bd' := HOK.out.bounds (t := i) (k := k) hi hlt
            have u1 := bd.c2; have u2 := bd.c64; have u3 := bd.s1; have u4 := bd.s2048; have u5 := bd'.pg1; have u6 := bd'.pg2048
            have u7 : 1 ≤ pg / nth c.cl k := bd'.per1
            have u8 : pg / nth c.cl k ≤ 32 := bd'.per32
            obtain ⟨cb, co, rfl, hc⟩ := H.out.cl.pos (by omega)
            have hck := hc k hlt
            clear hc bd bd'
            generalize slotsOf c i k = s at *
            generalize pagesOf c i k = p at *
            generalize pagesOf (withPage c pg) i k = q at *
            generalize nth c.cl k = x at *
            have m2 : (q - 1) * (pg / x) ≤ 2047 * 32 := by
              have a1 := Int.mul_le_mul_of_nonneg_left (c := q - 1) u8 (by omega)
              omega
            have m0 : 0 ≤ (q - 1) * (pg / x) := Int.mul_nonneg (by omega) (by omega)
            have M2 := Lib.hid m2; have M0 := Lib.hid m0; have L2 := Lib.hid l2
            clear m2 m0 l2
            go_wp2_with fail
            try clear b0 b1 b2 b3 b4 b5 d0 d1 d2 d3 d4 d5
            refine (conf_Slots c _ _ _ _ S1.out (H.out.ext (hx.trans h1))).mono ?_
            rintro e w2 ⟨rfl, h2⟩
            replace h1 := h1.trans h2
            replace h3 := h3.trans h2
            clear h2
            obtain ⟨b0, b1, b2, b3, b4, b5⟩ := box6 h1
            obtain ⟨d0, d1, d2, d3, d4, d5⟩ := box6 h3
            go_wp2_with fail
            try clear b0 b1 b2 b3 b4 b5 d0 d1 d2 d3 d4 d5
            refine (conf_Slots (withPage c pg) _ _ _ _ S2.out (CO.out _ (hy.trans h3))).mono ?_
            rintro e w3 ⟨rfl, h2⟩
            replace h1 := h1.trans h2
            replace h3 := h3.trans h2
            clear h2
            obtain ⟨b0, b1, b2, b3, b4, b5⟩ := box6 h1
            obtain ⟨d0, d1, d2, d3, d4, d5⟩ := box6 h3
            go_wp2_with fail
            try clear b0 b1 b2 b3 b4 b5 d0 d1 d2 d3 d4 d5
            refine (conf_Pages c _ _ _ _ P1.out (H.out.ext (hx.trans h1))).mono ?_
            rintro e w4 ⟨rfl, h2⟩
            replace h1 := h1.trans h2
            replace h3 := h3.trans h2
            clear h2
            obtain ⟨b0, b1, b2, b3, b4, b5⟩ := box6 h1
            obtain ⟨d0, d1, d2, d3, d4, d5⟩ := box6 h3
            go_wp2_with fail
            try clear b0 b1 b2 b3 b4 b5 d0 d1 d2 d3 d4 d5
            refine (conf_Pages (withPage c pg) _ _ _ _ P2.out (CO.out _ (hy.trans h3))).mono ?_
            rintro e w5 ⟨rfl, h2⟩
            replace h1 := h1.trans h2
            replace h3 := h3.trans h2
            clear h2
            obtain ⟨b0, b1, b2, b3, b4, b5⟩ := box6 h1
            obtain ⟨d0, d1, d2, d3, d4, d5⟩ := box6 h3
            go_wp2_with fail
            have z1 := (hx.trans h1).cell hck
            have g1 : decide (p < q) = false := by simp; omega
            have g2 : IntKind.i64.wrap (q - 1) = q - 1 := IntWalk.i64_in _ (by omega)
            have g3 : IntKind.i64.wrap ((q - 1) * (pg / x)) = (q - 1) * (pg / x) := IntWalk.i64_in _ (by have := M2.out; have := M0.out; omega)
            have g4 : decide (s ≤ (q - 1) * (pg / x)) = false := by have := L2.out; simp; omega
            have hpg64 : pg ≤ 9223372036854775807 := by omega
            have hpg0 : 0 ≤ pg := by
              have := Int.ediv_nonneg_iff_of_pos (a := pg) (b := x) (by omega)
              omega
            have g5 : IntKind.i64.wrap (pg.tdiv x) = pg / x := IntWalk.i64_quo _ _ (by omega)
            go_quiet (fail)
            go_wp2_with fail
            go_roundw
            case rel => exact ⟨k + 1, by omega, by go_num, h1.drewN _, h3.drewN _⟩
            case measure => simp [intOf]; omega
          · go_wp2_with fail
            clear b0 b1 b2 b3 b4 b5
            refine (law06_awake _).mono ?_
            rintro e w6 ⟨rfl, h2⟩
            replace h1 := h1.trans h2
            clear h2
            go_wp2_with fail
            go_ret
            exact ⟨rfl, hx.trans h1⟩
      · have hk2 : kcheck (withPage c pg) = 2 := (kcheck_01 _).resolve_left fun h => hp64 (kcheck_ok h).head.2.1
        have HK := Lib.hid hk2
        clear hk2
        refine (conf_Check' (withPage c pg) 2 HK.out (CO.out _ (hy.trans h3))).mono ?_
        rintro e w3 ⟨rfl, h2⟩
        replace h3 := h3.trans h2
        replace h1 := (h1.alloc (.cells #[.slice ca c.cl.length cc, .int .i64 pg, .slice ta c.ts.length tc, .int .i64 c.wk, .int .i64 c.gr, .int .i64 c.gens] 36)).trans h3
        clear h2
        obtain ⟨d0, d1, d2, d3, d4, d5⟩ := box6 h3
        go_wp2_with fail
        clear d0 d1 d2 d3 d4 d5
        refine (law06_awake _).mono ?_
        rintro e w7 ⟨rfl, h2⟩
        replace h1 := h1.trans h2
        clear h2
        go_wp2_with fail
        go_ret
        exact ⟨rfl, hx.trans h1⟩
    · have h2 : kcheck c = 2 := (kcheck_01 _).resolve_left h0
      have H2 := Lib.hid h2
      clear h0 h2
      go_enter Try.func8, Try.ntmps8
      go_wp2_with fail
      try clear b0 b1 b2 b3 b4 b5
      refine (ref06_Small c true HS.out (H.out.ext (hx.trans h1))).mono ?_
      rintro e w8 ⟨rfl, h2⟩
      replace h1 := h1.trans h2
      clear h2
      obtain ⟨b0, b1, b2, b3, b4, b5⟩ := box6 h1
      go_wp2_with fail
      refine (conf_Check' c 2 H2.out (H.out.ext (hx.trans h1))).mono ?_
      rintro e w9 ⟨rfl, h2⟩
      replace h1 := h1.trans h2
      clear h2
      obtain ⟨b0, b1, b2, b3, b4, b5⟩ := box6 h1
      go_wp2_with fail
      all_goals (try clear b0 b1 b2 b3 b4 b5)
      refine (law06_awake _).mono ?_
      rintro e w10 ⟨rfl, h2⟩
      replace h1 := h1.trans h2
      clear h2
      go_wp2_with fail
      go_ret
      exact ⟨rfl, hx.trans h1⟩
  · have HS := Lib.hid (show decide (c.cl.length ≤ 50 ∧ c.ts.length ≤ 50) = false by simpa using hs)
    clear hs
    go_enter Try.func8, Try.ntmps8
    go_wp2_with fail
    refine (ref06_Small c false HS.out (H.out.ext (hx.trans h1))).mono ?_
    rintro e w11 ⟨rfl, h2⟩
    replace h1 := h1.trans h2
    clear h2
    obtain ⟨b0, b1, b2, b3, b4, b5⟩ := box6 h1
    go_wp2_with fail
    all_goals (try clear b0 b1 b2 b3 b4 b5)
    refine (law06_awake _).mono ?_
    rintro e w12 ⟨rfl, h2⟩
    replace h1 := h1.trans h2
    clear h2
    go_wp2_with fail
    go_ret
    exact ⟨rfl, hx.trans h1⟩

end Go.Proofs.Ytcnaabkimgkpbaa
