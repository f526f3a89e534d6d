/-
  commonagelaw07: great, example, awake.
-/
import Derived.Test.YteopbobhphghhaaExC
import Derived.Test.YteopbobhphghhaaRef07e
namespace Go.Proofs.Yteopbobhphghhaa
open Go.RowKit

/-- More than a statement looks at. -/
def bigM (c : Conf) : Bool := !(decide (c.cl.length ≤ 50 ∧ c.ts.length ≤ 50)) || decide (4000 < (ktotal c).1)

set_option maxHeartbeats 2000000 in
theorem law07_great {ca ta : Option Addr} {cc tc : Nat} (c : Conf) (b : Bool) {w : World} (hb : bigM c = b) (h : CfgAt w ca ta cc tc c) :
    Calls Try.prog 8 #[.agg #[.slice ca c.cl.length cc, .int .i64 c.page, .slice ta c.ts.length tc, .int .i64 c.wk, .int .i64 c.gr, .int .i64 c.gens]] w fun e w' => e = .returned (.bool b) ∧ Ext w w' := by
  have h1 := Ext.refl (w.alloc (.cells #[.slice ca c.cl.length cc, .int .i64 c.page, .slice ta c.ts.length tc, .int .i64 c.wk, .int .i64 c.gr, .int .i64 c.gens] 25))
  have hx := (Ext.refl w).alloc (.cells #[.slice ca c.cl.length cc, .int .i64 c.page, .slice ta c.ts.length tc, .int .i64 c.wk, .int .i64 c.gr, .int .i64 c.gens] 25)
  obtain ⟨⟨p, q⟩, hpq⟩ : ∃ pq, ktotal c = pq := ⟨_, rfl⟩
  have PQ := Lib.hid hpq
  have H := Lib.hid h; clear h
  unfold bigM at hb
  rw [hpq] at hb
  by_cases hs : c.cl.length ≤ 50 ∧ c.ts.length ≤ 50
  · have HS := Lib.hid (show decide (c.cl.length ≤ 50 ∧ c.ts.length ≤ 50) = true by simpa using hs)
    have hp : decide (4000 < p) = b := by rw [← hb, decide_eq_true hs]; rfl
    clear hs hb hpq
    go_enter Try.func8, Try.ntmps8
    go_wp2_with fail
    try clear b0 b1 b2 b3 b4 b5
    refine (ref06_Total c p q PQ.out (H.out.ext (hx.trans h1))).mono ?_
    rintro e w1 ⟨rfl, h2⟩
    replace h1 := h1.trans h2
    clear h2
    obtain ⟨b0, b1, b2, b3, b4, b5⟩ := box6 h1
    go_wp2_with fail
    refine (ref06_Small c true HS.out (H.out.ext (hx.trans h1))).mono ?_
    rintro e w2 ⟨rfl, h2⟩
    replace h1 := h1.trans h2
    clear h2
    obtain ⟨b0, b1, b2, b3, b4, b5⟩ := box6 h1
    go_wp2_with fail
    all_goals (try clear b0 b1 b2 b3 b4 b5)
    go_ret
    exact ⟨rfl, hx.trans h1⟩
  · have HS := Lib.hid (show decide (c.cl.length ≤ 50 ∧ c.ts.length ≤ 50) = false by simpa using hs)
    have hp : b = true := by rw [← hb, decide_eq_false hs]; rfl
    subst hp
    clear hs hb hpq
    go_enter Try.func8, Try.ntmps8
    go_wp2_with fail
    try clear b0 b1 b2 b3 b4 b5
    refine (ref06_Total c p q PQ.out (H.out.ext (hx.trans h1))).mono ?_
    rintro e w3 ⟨rfl, h2⟩
    replace h1 := h1.trans h2
    clear h2
    obtain ⟨b0, b1, b2, b3, b4, b5⟩ := box6 h1
    go_wp2_with fail
    refine (ref06_Small c false HS.out (H.out.ext (hx.trans h1))).mono ?_
    rintro e w4 ⟨rfl, h2⟩
    replace h1 := h1.trans h2
    clear h2
    obtain ⟨b0, b1, b2, b3, b4, b5⟩ := box6 h1
    go_wp2_with fail
    all_goals (try clear b0 b1 b2 b3 b4 b5)
    go_ret
    exact ⟨rfl, hx.trans h1⟩

set_option maxHeartbeats 2000000 in
theorem law07_example (w : World) : Calls Try.prog 39 #[] w (IsExample w) := by
  go_enter Try.func39, Try.ntmps39
  go_wp2_with fail
  refine bodyPost_ret (v := .agg #[.slice (some ⟨w.heap.size + 1, 0, none⟩) 2 2, .int .i64 8, .slice (some ⟨w.heap.size + 1 + 1, 0, none⟩) 2 2, .int .i64 1, .int .i64 2, .int .i64 3]) (by simp [results, Try.results39, go_sem]) rfl ⟨_, _, rfl, ?_, ?_⟩
  · refine ⟨(At.newb .i64 _ [2, 4] 3 _ (by simp)).ext ((Ext.refl _).alloc _), TenAt.newb _ _ _ _ _ (by simp) ?_, by decide, by decide, by decide, by decide, by decide, by decide⟩
    intro i hi
    have h2 : i < 2 := hi
    match i, h2 with
    | 0, _ => exact ⟨rfl, rfl, rfl, rfl⟩
    | 1, _ => exact ⟨rfl, rfl, rfl, rfl⟩
  · exact (((Ext.refl w).alloc _).alloc _).alloc _

/-! ### The example's words -/
def exW0 : List Int := List.replicate (totalN exC) 0
def exW1 : List Int := exW0.set 47 9
def exW2 : List Int := exW1.set 48 5
def exW3 : List Int := zeroL exW2 48 0
def exW4 : List Int := zeroL exW3 40 8
theorem ex_s1 : storeR exC exW0 0 47 9 = (exW1, 0) := by decide +kernel
theorem ex_s2 : storeR exC exW1 0 48 9 = (exW1, 4) := by decide +kernel
theorem ex_s3 : storeR exC exW1 1 0 5 = (exW2, 0) := by decide +kernel
theorem ex_l1 : loadR exC exW2 0 47 = (9, 0) := by decide +kernel
theorem ex_l2 : loadR exC exW2 1 0 = (5, 0) := by decide +kernel
theorem ex_l3 : loadR exC exW2 2 0 = (0, 2) := by decide +kernel
theorem ex_z1 : zeroR exC exW2 0 40 9 = (exW2, 4) := by decide +kernel
theorem ex_z2 : zeroR exC exW2 0 48 0 = (exW3, 0) := by decide +kernel
theorem ex_z3 : zeroR exC exW3 0 40 8 = (exW4, 0) := by decide +kernel
theorem ex_l4 : loadR exC exW4 0 47 = (0, 0) := by decide +kernel
theorem is64_of {a : Int} (h : (decide (-9223372036854775808 ≤ a) && decide (a ≤ 9223372036854775807)) = true) : is64 a := by simpa [is64] using h

set_option maxRecDepth 100000 in
set_option maxHeartbeats 8000000 in
theorem law07_awake (w : World) : Calls Try.prog 10 #[] w fun e w' => e = .returned (.bool true) ∧ Ext w w' := by
  have K0 := Lib.hid (show kcheck exC = 0 by decide)
  have S47 := Lib.hid (show is64 47 from is64_of (by decide)); have S48 := Lib.hid (show is64 48 from is64_of (by decide)); have S0 := Lib.hid (show is64 0 from is64_of (by decide)); have S40 := Lib.hid (show is64 40 from is64_of (by decide)); have S9 := Lib.hid (show is64 9 from is64_of (by decide)); have S8 := Lib.hid (show is64 8 from is64_of (by decide))
  go_enter Try.func10, Try.ntmps10
  go_wp2_with fail
  refine (law07_example w).mono ?_
  rintro e w0 ⟨ca, ta, rfl, hc, hx⟩
  have HC := Lib.hid hc; have X := Lib.hid hx
  clear hc hx
  go_wp2_with fail
  refine (mem_New exC K0.out HC.out).mono ?_
  rintro e w1 ⟨b, gw, gb, rfl, hm, l0, l1, l2, x1⟩
  have LG := Lib.hid (show w.heap.size ≤ gw from Nat.le_trans X.out.size l1)
  have HM : Hid (MemAt w1 b gw gb exC exW0) := Lib.hid hm
  have C : Hid (Chg (isB gw) w w1) := Lib.hid (Chg.of_ext (X.out.trans x1))
  clear hm l0 l1 l2 x1 X HC
  go_wp2_with fail
  refine (mem_Store HM.out S47.out ex_s1).mono ?_
  rintro e w2 ⟨rfl, hc, hm⟩
  replace HM := Lib.hid hm; replace C := Lib.hid (C.out.trans hc)
  clear hm hc
  go_wp2_with fail
  refine (mem_Store HM.out S48.out ex_s2).mono ?_
  rintro e w3 ⟨rfl, hc, hm⟩
  replace HM := Lib.hid hm; replace C := Lib.hid (C.out.trans hc)
  clear hm hc
  go_wp2_with fail
  refine (mem_Store HM.out S0.out ex_s3).mono ?_
  rintro e w4 ⟨rfl, hc, hm⟩
  replace HM := Lib.hid hm; replace C := Lib.hid (C.out.trans hc)
  clear hm hc
  go_wp2_with fail
  refine (mem_Load 9 0 HM.out S47.out ex_l1).mono ?_
  rintro e w5 ⟨rfl, x⟩
  replace HM := Lib.hid (HM.out.ext x); replace C := Lib.hid (C.out.trans (Chg.of_ext x))
  clear x
  go_wp2_with fail
  refine (mem_Load 5 0 HM.out S0.out ex_l2).mono ?_
  rintro e w6 ⟨rfl, x⟩
  replace HM := Lib.hid (HM.out.ext x); replace C := Lib.hid (C.out.trans (Chg.of_ext x))
  clear x
  go_wp2_with fail
  refine (mem_Load 0 2 HM.out S0.out ex_l3).mono ?_
  rintro e w7 ⟨rfl, x⟩
  replace HM := Lib.hid (HM.out.ext x); replace C := Lib.hid (C.out.trans (Chg.of_ext x))
  clear x
  go_wp2_with fail
  refine (mem_Zero HM.out S40.out S9.out ex_z1).mono ?_
  rintro e w8 ⟨rfl, hc, hm⟩
  replace HM := Lib.hid hm; replace C := Lib.hid (C.out.trans hc)
  clear hm hc
  go_wp2_with fail
  refine (mem_Zero HM.out S48.out S0.out ex_z2).mono ?_
  rintro e w9 ⟨rfl, hc, hm⟩
  have HM2 := Lib.hid hm; replace C := Lib.hid (C.out.trans hc)
  clear hm hc HM
  go_wp2_with fail
  refine (mem_Zero HM2.out S40.out S8.out ex_z3).mono ?_
  rintro e w10 ⟨rfl, hc, hm⟩
  have HM3 := Lib.hid hm; replace C := Lib.hid (C.out.trans hc)
  clear hm hc HM2
  go_wp2_with fail
  refine (mem_Load 0 0 HM3.out S47.out ex_l4).mono ?_
  rintro e w11 ⟨rfl, x⟩
  replace C := Lib.hid (C.out.trans (Chg.of_ext x))
  clear x
  go_wp2_with fail
  go_ret
  exact ⟨rfl, C.out.over (Ext.refl w) fun k hk => by have := LG.out; unfold isB at hk; omega⟩

end Go.Proofs.Yteopbobhphghhaa
