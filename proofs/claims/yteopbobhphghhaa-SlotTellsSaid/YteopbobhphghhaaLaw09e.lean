/-
  commonagelaw09: one, page.
-/
import Derived.Test.YteopbobhphghhaaRef09o
namespace Go.Proofs.Yteopbobhphghhaa
open Go.RowKit

set_option maxHeartbeats 2000000 in
theorem slot_Of_neg {b gp : Nat} {k : Int} {c : Conf} {t : Nat} {w : World} (h : PlanAt w b gp c t) (hk : k < 0) : Calls Try.prog 28 #[.pointer (some ⟨b, 0, none⟩), .int .i64 k] w fun e w' => e = .returned (.tuple #[.int .i64 0, .int .i64 0, .int .i64 2]) ∧ Ext w w' := by
  have H := Lib.hid h
  have t0 : decide (k < 0) = true := by simpa using hk
  clear h hk
  go_enter Try.func28, Try.ntmps28
  go_wp2_with fail
  refine (slot_none H.out).mono ?_
  rintro e w1000 ⟨rfl, rfl⟩
  go_wp2_with fail
  go_ret3
  exact ⟨rfl, Ext.refl _⟩

theorem nS_at {c : Conf} {t : Nat} (ho : KOk c) (ht : t < c.ts.length) {s : Int} (h : 0 ≤ s ∧ s < (nS c t : Int)) : ∃ n : Nat, s = n ∧ n < nS c t ∧ AtClass c t (n : Int) (kOf c t (n : Int)) := by
  refine ⟨s.toNat, by omega, by omega, slot_at ho ht (by omega)⟩
theorem nG_at {c : Conf} {t : Nat} (ho : KOk c) (ht : t < c.ts.length) {p : Int} (h : 0 ≤ p ∧ p < (nG c t : Int)) : ∃ n : Nat, p = n ∧ n < nG c t ∧ AtPage c t (n : Int) (kpOf c t (n : Int)) := by
  have hn := ho.nG_eq ht
  obtain ⟨j, hj⟩ := atPage_find (c := c) (t := t) (s := p) h.1 (by omega)
  refine ⟨p.toNat, by omega, by omega, ?_⟩
  rw [Int.toNat_of_nonneg h.1, hj.kpOf ho ht]; exact hj
theorem slot_ClassV {b gp k : Nat} {c : Conf} {t : Nat} {s : Int} (a : Int) {w : World} (ha : (k : Int) = a) (h : PlanAt w b gp c t) (hk : AtClass c t s k) :
    Calls Try.prog 58 #[.pointer (some ⟨b, 0, none⟩), .int .i64 s] w fun e w' => e = .returned (.tuple #[.int .i64 a, .int .i64 0]) ∧ Ext w w' := by
  subst ha; exact slot_Class h hk
theorem slot_InW {b gp k : Nat} {c : Conf} {t : Nat} {p : Int} (x m : Int) {w : World} (hx : firstP c t p k = x) (hm : manyP c t p k = m) (h : PlanAt w b gp c t) (hk : AtPage c t p k) :
    Calls Try.prog 60 #[.pointer (some ⟨b, 0, none⟩), .int .i64 p] w fun e w' => e = .returned (.tuple #[.int .i64 x, .int .i64 m, .int .i64 0]) ∧ Ext w w' := by
  subst hx hm; exact slot_In h hk

set_option maxRecDepth 100000 in
set_option maxHeartbeats 8000000 in
theorem law09_one {b gp lb lc fb fc mb mc cc t : Nat} {ca : Option Addr} {c : Conf} {s : Int} {w : World} (h : PlanAt w b gp c t) (hd : DPlan w lb fb mb ca c t) :
    Calls Try.prog 33 #[.pointer (some ⟨b, 0, none⟩), dpv lb lc fb fc mb mc ca cc c t, .int .i64 s] w fun e w' => e = .returned (.bool true) ∧ Ext w w' := by
  have ho := hd.ok; have ht := hd.ti
  have hn := ho.nS_eq ht
  have HP := Lib.hid h; have HD := Lib.hid hd
  have hx := (Ext.refl w).alloc (.cells #[.slice (some ⟨lb, 0, none⟩) (nS c t) lc, .slice (some ⟨fb, 0, none⟩) (nG c t) fc, .slice (some ⟨mb, 0, none⟩) (nG c t) mc, .int .i64 (wordsOf c t), .slice ca c.cl.length cc] 67)
  have BX : Hid (∀ i u, #[Value.slice (some ⟨lb, 0, none⟩) (nS c t) lc, .slice (some ⟨fb, 0, none⟩) (nG c t) fc, .slice (some ⟨mb, 0, none⟩) (nG c t) mc, .int .i64 (wordsOf c t), .slice ca c.cl.length cc][i]? = some u → (w.alloc (.cells #[.slice (some ⟨lb, 0, none⟩) (nS c t) lc, .slice (some ⟨fb, 0, none⟩) (nG c t) fc, .slice (some ⟨mb, 0, none⟩) (nG c t) mc, .int .i64 (wordsOf c t), .slice ca c.cl.length cc] 67)).cell? ⟨w.heap.size, i, none⟩ = some u) := Lib.hid fun i u hu => by rw [cell_newN]; exact hu
  have nb := ho.nS_le ht
  have HDV : Hid (∀ r, decide (0 ≤ s ∧ s < (nS c t : Int)) = r → ∀ W, Calls Try.prog 68 #[.agg #[.slice (some ⟨lb, 0, none⟩) (nS c t) lc, .slice (some ⟨fb, 0, none⟩) (nG c t) fc, .slice (some ⟨mb, 0, none⟩) (nG c t) mc, .int .i64 (wordsOf c t), .slice ca c.cl.length cc], .int .i64 s] W fun e w' => e = .returned (.bool r) ∧ Ext W w') := Lib.hid fun r hr W => ref09_Has r hr
  unfold dpv
  clear h hd
  by_cases hs : 0 ≤ s ∧ s < (nS c t : Int)
  · obtain ⟨n, rfl, hlt, hk⟩ := nS_at ho ht hs
    have HS := Lib.hid hs
    have HK := Lib.hid hk
    have CL : Hid (∀ j u, (slc c t (n : Int))[j]? = some u → w.cell? ⟨lb, n * 4 + j, none⟩ = some u) := Lib.hid (HD.out.l n hlt)
    obtain ⟨vk, ek⟩ : ∃ v : Nat, kOf c t (n : Int) = v := ⟨_, rfl⟩
    obtain ⟨vs, es⟩ : ∃ v, nth c.cl (kOf c t (n : Int)) = v := ⟨_, rfl⟩
    obtain ⟨va, ea⟩ : ∃ v, addrOf c t (n : Int) (kOf c t (n : Int)) = v := ⟨_, rfl⟩
    obtain ⟨vp, ep⟩ : ∃ v, pageOf c t (n : Int) (kOf c t (n : Int)) = v := ⟨_, rfl⟩
    have EK := Lib.hid ek; have ES := Lib.hid es; have EA := Lib.hid ea; have EP := Lib.hid ep
    have SL : Hid (slc c t (n : Int) = [.int .i64 vk, .int .i64 vs, .int .i64 va, .int .i64 vp]) := Lib.hid (by unfold slc; rw [es, ea, ep, ek])
    clear hs hk ek es ea ep ho ht hn
    go_enter Try.func33, Try.ntmps33
    go_wp2_with fail
    refine (slot_ClassV _ (by rw [EK.out]) (HP.out.ext hx) HK.out).mono ?_
    rintro e w1 ⟨rfl, x⟩
    have X := Lib.hid x
    clear x
    go_wp2_with fail
    refine (slot_SizeV _ ES.out (HP.out.ext (hx.trans X.out)) HK.out).mono ?_
    rintro e w2 ⟨rfl, x⟩
    replace X := Lib.hid (X.out.trans x)
    clear x
    go_wp2_with fail
    refine (slot_AddrV _ EA.out (HP.out.ext (hx.trans X.out)) HK.out).mono ?_
    rintro e w3 ⟨rfl, x⟩
    replace X := Lib.hid (X.out.trans x)
    clear x
    go_wp2_with fail
    refine (slot_PageV _ EP.out (HP.out.ext (hx.trans X.out)) HK.out).mono ?_
    rintro e w4 ⟨rfl, x⟩
    replace X := Lib.hid (X.out.trans x)
    clear x
    have b0 := X.out.cell (BX.out 0 _ rfl); have b1 := X.out.cell (BX.out 1 _ rfl); have b2 := X.out.cell (BX.out 2 _ rfl); have b3 := X.out.cell (BX.out 3 _ rfl); have b4 := X.out.cell (BX.out 4 _ rfl)
    go_wp2_with fail
    clear b0 b1 b2 b3 b4
    refine (HDV.out true (by simpa using HS.out) _).mono ?_
    rintro e w5 ⟨rfl, x⟩
    replace X := Lib.hid (X.out.trans x)
    clear x
    have b0 := X.out.cell (BX.out 0 _ rfl)
    have z0 := (hx.trans X.out).cell (CL.out 0 (.int .i64 vk) (by rw [SL.out]; rfl))
    have z1 := (hx.trans X.out).cell (CL.out 1 (.int .i64 vs) (by rw [SL.out]; rfl))
    have z2 := (hx.trans X.out).cell (CL.out 2 (.int .i64 va) (by rw [SL.out]; rfl))
    have z3 := (hx.trans X.out).cell (CL.out 3 (.int .i64 vp) (by rw [SL.out]; rfl))
    rw [Nat.add_zero] at z0
    go_wp2_with fail
    go_ret
    exact ⟨rfl, hx.trans X.out⟩
  · have HS := Lib.hid hs
    have HK := Lib.hid (show s < 0 ∨ sS c t c.cl.length ≤ s by omega)
    clear hs ho ht hn
    go_enter Try.func33, Try.ntmps33
    go_wp2_with fail
    refine (slot_Class_no (HP.out.ext hx) HK.out).mono ?_
    rintro e w1 ⟨rfl, x⟩
    have X := Lib.hid x
    clear x
    go_wp2_with fail
    refine (slot_Size_no (HP.out.ext (hx.trans X.out)) HK.out).mono ?_
    rintro e w2 ⟨rfl, x⟩
    replace X := Lib.hid (X.out.trans x)
    clear x
    go_wp2_with fail
    refine (slot_Addr_no (HP.out.ext (hx.trans X.out)) HK.out).mono ?_
    rintro e w3 ⟨rfl, x⟩
    replace X := Lib.hid (X.out.trans x)
    clear x
    go_wp2_with fail
    refine (slot_Page_no (HP.out.ext (hx.trans X.out)) HK.out).mono ?_
    rintro e w4 ⟨rfl, x⟩
    replace X := Lib.hid (X.out.trans x)
    clear x
    have b0 := X.out.cell (BX.out 0 _ rfl); have b1 := X.out.cell (BX.out 1 _ rfl); have b2 := X.out.cell (BX.out 2 _ rfl); have b3 := X.out.cell (BX.out 3 _ rfl); have b4 := X.out.cell (BX.out 4 _ rfl)
    go_wp2_with fail
    clear b0 b1 b2 b3 b4
    refine (HDV.out false (by simpa using HS.out) _).mono ?_
    rintro e w5 ⟨rfl, x⟩
    replace X := Lib.hid (X.out.trans x)
    clear x
    go_wp2_with fail
    go_ret
    exact ⟨rfl, hx.trans X.out⟩

set_option maxRecDepth 100000 in
set_option maxHeartbeats 8000000 in
theorem law09_page {b gp lb lc fb fc mb mc cc t : Nat} {ca : Option Addr} {c : Conf} {s : Int} {w : World} (h : PlanAt w b gp c t) (hd : DPlan w lb fb mb ca c t) :
    Calls Try.prog 34 #[.pointer (some ⟨b, 0, none⟩), dpv lb lc fb fc mb mc ca cc c t, .int .i64 s] w fun e w' => e = .returned (.bool true) ∧ Ext w w' := by
  have ho := hd.ok; have ht := hd.ti
  have hn := ho.nG_eq ht
  have g1 := (ho.sG_le ht (Nat.le_refl c.cl.length)).2
  have c8 := ho.cl.most
  have HP := Lib.hid h; have HD := Lib.hid hd
  have hx := (Ext.refl w).alloc (.cells #[.slice (some ⟨lb, 0, none⟩) (nS c t) lc, .slice (some ⟨fb, 0, none⟩) (nG c t) fc, .slice (some ⟨mb, 0, none⟩) (nG c t) mc, .int .i64 (wordsOf c t), .slice ca c.cl.length cc] 67)
  have BX : Hid (∀ i u, #[Value.slice (some ⟨lb, 0, none⟩) (nS c t) lc, .slice (some ⟨fb, 0, none⟩) (nG c t) fc, .slice (some ⟨mb, 0, none⟩) (nG c t) mc, .int .i64 (wordsOf c t), .slice ca c.cl.length cc][i]? = some u → (w.alloc (.cells #[.slice (some ⟨lb, 0, none⟩) (nS c t) lc, .slice (some ⟨fb, 0, none⟩) (nG c t) fc, .slice (some ⟨mb, 0, none⟩) (nG c t) mc, .int .i64 (wordsOf c t), .slice ca c.cl.length cc] 67)).cell? ⟨w.heap.size, i, none⟩ = some u) := Lib.hid fun i u hu => by rw [cell_newN]; exact hu
  unfold dpv
  clear h hd
  by_cases hs : 0 ≤ s ∧ s < (nG c t : Int)
  · obtain ⟨n, rfl, hlt, hk⟩ := nG_at ho ht hs
    have HK := Lib.hid hk
    obtain ⟨vf, ef⟩ : ∃ v, firstP c t (n : Int) (kpOf c t (n : Int)) = v := ⟨_, rfl⟩
    obtain ⟨vm, em⟩ : ∃ v, manyP c t (n : Int) (kpOf c t (n : Int)) = v := ⟨_, rfl⟩
    have EF := Lib.hid ef; have EM := Lib.hid em
    have C1 : Hid (w.cell? ⟨fb, n, none⟩ = some (.int .i64 vf)) := Lib.hid (by
      obtain ⟨b', o', e, hc⟩ := HD.out.f n (by rw [firsts_len]; exact hlt)
      cases e
      rwa [Nat.zero_add, nth_firsts hlt, ef] at hc)
    have C2 : Hid (w.cell? ⟨mb, n, none⟩ = some (.int .i64 vm)) := Lib.hid (by
      obtain ⟨b', o', e, hc⟩ := HD.out.m n (by rw [manys_len]; exact hlt)
      cases e
      rwa [Nat.zero_add, nth_manys hlt, em] at hc)
    have t0 : decide ((n : Int) < 0) = false := by simp
    have t1 : decide (nG c t ≤ n) = false := by simp; omega
    clear hs hk ef em ho ht hn
    go_enter Try.func34, Try.ntmps34
    go_wp2_with fail
    refine (slot_InW _ _ EF.out EM.out (HP.out.ext hx) HK.out).mono ?_
    rintro e w1 ⟨rfl, x⟩
    have X := Lib.hid x
    clear x
    have b0 := X.out.cell (BX.out 0 _ rfl); have b1 := X.out.cell (BX.out 1 _ rfl); have b2 := X.out.cell (BX.out 2 _ rfl)
    have z1 := (hx.trans X.out).cell C1.out
    have z2 := (hx.trans X.out).cell C2.out
    go_wp2_with fail
    go_ret
    exact ⟨rfl, hx.trans X.out⟩
  · have HK := Lib.hid (show s < 0 ∨ sG c t c.cl.length ≤ s by omega)
    by_cases h0 : s < 0
    · have t0 : decide (s < 0) = true := by simpa using h0
      clear hs ho ht hn h0
      go_enter Try.func34, Try.ntmps34
      go_wp2_with fail
      refine (slot_In_no (HP.out.ext hx) HK.out).mono ?_
      rintro e w1 ⟨rfl, x⟩
      have X := Lib.hid x
      clear x
      go_wp2_with fail
      go_ret
      exact ⟨rfl, hx.trans X.out⟩
    · have t0 : decide (s < 0) = false := by simpa using h0
      have t1 : decide ((nG c t : Int) ≤ s) = true := by simp; omega
      clear hs ho ht hn h0
      go_enter Try.func34, Try.ntmps34
      go_wp2_with fail
      refine (slot_In_no (HP.out.ext hx) HK.out).mono ?_
      rintro e w1 ⟨rfl, x⟩
      have X := Lib.hid x
      clear x
      have b1 := X.out.cell (BX.out 1 _ rfl)
      go_wp2_with fail
      go_ret
      exact ⟨rfl, hx.trans X.out⟩

end Go.Proofs.Yteopbobhphghhaa
