/-
  The walk of commonagelaw06.ConfCuts.
-/
import Derived.Test.YtcnaabkimgkpbaaLaw06b
namespace Go.Proofs.Ytcnaabkimgkpbaa
open Go.RowKit

set_option maxRecDepth 100000 in
set_option maxHeartbeats 4000000 in
theorem law06_ConfCuts {ca ta : Option Addr} {cc tc : Nat} (c : Conf) (w : World) (h : CfgAt w ca ta cc tc c) :
    Calls Try.prog 6 #[.agg #[.slice ca c.cl.length cc, .int .i64 c.page, .slice ta c.ts.length tc, .int .i64 c.wk, .int .i64 c.gr, .int .i64 c.gens]] w fun e w' => e = .returned (.bool true) ∧ Ext w w' := by
  have h1 := Ext.refl (w.alloc (.cells #[.slice ca c.cl.length cc, .int .i64 c.page, .slice ta c.ts.length tc, .int .i64 c.wk, .int .i64 c.gr, .int .i64 c.gens] 36))
  have hx := (Ext.refl w).alloc (.cells #[.slice ca c.cl.length cc, .int .i64 c.page, .slice ta c.ts.length tc, .int .i64 c.wk, .int .i64 c.gr, .int .i64 c.gens] 36)
  have tm := h.tm
  have cm := h.cm
  unfold maxLen at tm cm
  have H := Lib.hid h; clear h
  by_cases hs : c.cl.length ≤ 50 ∧ c.ts.length ≤ 50
  · have HS := Lib.hid (show decide (c.cl.length ≤ 50 ∧ c.ts.length ≤ 50) = true by simpa using hs)
    clear hs
    by_cases h0 : kcheck c = 0
    · have ho := kcheck_ok h0
      have H0 := Lib.hid h0
      have HO := Lib.hid ho
      have t1 := ho.head.2.2.1
      have t8 := ho.head.2.2.2.1
      have c8 := ho.cl.most
      have c1 := ho.cl.pos
      have HTOT := Lib.hid (show ktotal c = (baseOf c c.ts.length, 0) by unfold ktotal; rw [if_pos h0])
      clear h0 ho
      obtain ⟨cb, co, rfl, hc⟩ := H.out.cl.pos (by omega)
      obtain ⟨tb, to_, rfl, ht⟩ := H.out.ts.pos (by omega)
      have HC := Lib.hid hc
      have HT := Lib.hid ht
      clear hc ht
      go_enter Try.func6, Try.ntmps6
      go_wp2_with fail
      try clear b0 b1 b2 b3 b4 b5
      refine (ref06_Small c true HS.out (H.out.ext (hx.trans h1))).mono ?_
      rintro e w1 ⟨rfl, h2⟩
      replace h1 := h1.trans h2
      clear h2
      obtain ⟨b0, b1, b2, b3, b4, b5⟩ := box6 h1
      go_wp2_with fail
      try clear b0 b1 b2 b3 b4 b5
      refine (conf_Check' c 0 H0.out (H.out.ext (hx.trans h1))).mono ?_
      rintro e w2 ⟨rfl, h2⟩
      replace h1 := h1.trans h2
      clear h2
      obtain ⟨b0, b1, b2, b3, b4, b5⟩ := box6 h1
      go_wp2_with fail
      try clear b0 b1 b2 b3 b4 b5
      go_loopw [3, 4] (fun at_ n wr => ∃ k : Nat, k ≤ c.ts.length ∧ n = .int .i64 k ∧ at_ = .int .i64 (baseOf c k) ∧ Ext (w.alloc (.cells #[.slice (some ⟨cb, co, none⟩) c.cl.length cc, .int .i64 c.page, .slice (some ⟨tb, to_, none⟩) c.ts.length tc, .int .i64 c.wk, .int .i64 c.gr, .int .i64 c.gens] 36)) wr) (fun _ n _ => c.ts.length - (intOf n).toNat)
      case atStart => exact ⟨0, Nat.zero_le _, rfl, rfl, h1⟩
      case round =>
        clear h1
        obtain ⟨k, hk, rfl, rfl, h1⟩ := hrel
        obtain ⟨wo, rfl⟩ : ∃ wo : World, wo = wr := ⟨_, rfl⟩
        obtain ⟨b0, b1, b2, b3, b4, b5⟩ := box6 h1
        by_cases hlt : k < c.ts.length
        · have KB := Lib.hid (kbase_yes (there_mk (i := k) H0.out hlt c1))
          have KR := Lib.hid (kregion_yes (there_mk (i := k) H0.out hlt c1))
          have bb := HO.out.base_bound (t := k) (by omega)
          have wb := HO.out.words_bound hlt
          have HSUC := Lib.hid (show baseOf c (k + 1) = baseOf c k + wordsOf c k from rfl)
          have HWD := Lib.hid (show wordsOf c k = sumTo (fun j => pagesOf c k j * c.page) c.cl.length from rfl)
          generalize baseOf c k = bs at *
          generalize wordsOf c k = wd at *
          go_wp2_with fail
          try clear b0 b1 b2 b3 b4 b5
          refine (conf_Base c _ _ _ KB.out (H.out.ext (hx.trans h1))).mono ?_
          rintro e w3 ⟨rfl, h2⟩
          replace h1 := h1.trans h2
          clear h2
          obtain ⟨b0, b1, b2, b3, b4, b5⟩ := box6 h1
          go_wp2_with fail
          try clear b0 b1 b2 b3 b4 b5
          refine (conf_Region c _ _ _ KR.out (H.out.ext (hx.trans h1))).mono ?_
          rintro e w4 ⟨rfl, h2⟩
          replace h1 := h1.trans h2
          clear h2
          obtain ⟨b0, b1, b2, b3, b4, b5⟩ := box6 h1
          go_wp2_with fail
          try clear b0 b1 b2 b3 b4 b5
          go_loopw [9, 10] (fun own n wr => ∃ j : Nat, j ≤ c.cl.length ∧ n = .int .i64 j ∧ own = .int .i64 (sumTo (fun j => pagesOf c k j * c.page) j) ∧ Ext (w.alloc (.cells #[.slice (some ⟨cb, co, none⟩) c.cl.length cc, .int .i64 c.page, .slice (some ⟨tb, to_, none⟩) c.ts.length tc, .int .i64 c.wk, .int .i64 c.gr, .int .i64 c.gens] 36)) wr) (fun _ n _ => c.cl.length - (intOf n).toNat)
          case atStart => exact ⟨0, Nat.zero_le _, rfl, rfl, h1⟩
          case round =>
            clear h1
            obtain ⟨j, hj, rfl, rfl, h1⟩ := hrel
            obtain ⟨b0, b1, b2, b3, b4, b5⟩ := box6 h1
            by_cases hjlt : j < c.cl.length
            · have S1 := Lib.hid (kslots_yes (there_mk H0.out hlt hjlt))
              have P1 := Lib.hid (kpages_yes (there_mk H0.out hlt hjlt))
              have bd := HO.out.bounds hlt hjlt
              have u1 := bd.c2; have u2 := bd.c64; have u3 := bd.s1; have u4 := bd.s2048; have u5 := bd.pg1; have u6 := bd.pg2048; have u7 := bd.per1; have u8 := bd.per32; have u9 := bd.p64; have u10 := bd.cpage
              obtain ⟨x1, x2, x3, x4⟩ := cuts_class HO.out hlt hjlt
              have pb := HO.out.page_bound hlt hjlt
              have hu := sumTo_bound (fun j => pagesOf c k j * c.page) 131072 j (fun i hi => HO.out.page_bound hlt (by omega))
              have HU := Lib.hid (show sumTo (fun j => pagesOf c k j * c.page) (j + 1) = sumTo (fun j => pagesOf c k j * c.page) j + pagesOf c k j * c.page from rfl)
              have HPE := Lib.hid (show c.page / nth c.cl j = perOf c j from rfl)
              have q1 := bd.q4096
              have hcj := HC.out j hjlt
              have htk := (HT.out k hlt).1
              clear bd
              generalize sumTo (fun j => pagesOf c k j * c.page) j = own at *
              generalize slotsOf c k j = s at *
              generalize pagesOf c k j = p at *
              generalize perOf c j = pe at *
              generalize nth c.cl j = x at *
              generalize (tnth c.ts k).q = y at *
              have X1 := Lib.hid x1; have X2 := Lib.hid x2; have X3 := Lib.hid x3; have X4 := Lib.hid x4; have PB := Lib.hid pb
              have m1 : 0 ≤ s * x := Int.mul_nonneg (by omega) (by omega)
              have m2 : (s + 1) * x = s * x + x := by rw [Int.add_mul]; omega
              have m3 : 0 ≤ p * pe := Int.mul_nonneg (by omega) (by omega)
              have M1 := Lib.hid m1; have M2 := Lib.hid m2; have M3 := Lib.hid m3
              clear x1 x2 x3 x4 pb m1 m2 m3
              go_wp2_with fail
              try clear b0 b1 b2 b3 b4 b5
              refine (conf_Slots c _ _ _ _ S1.out (H.out.ext (hx.trans h1))).mono ?_
              rintro e w5 ⟨rfl, h2⟩
              replace h1 := h1.trans h2
              clear h2
              obtain ⟨b0, b1, b2, b3, b4, b5⟩ := box6 h1
              go_wp2_with fail
              try clear b0 b1 b2 b3 b4 b5
              refine (conf_Pages c _ _ _ _ P1.out (H.out.ext (hx.trans h1))).mono ?_
              rintro e w6 ⟨rfl, h2⟩
              replace h1 := h1.trans h2
              clear h2
              obtain ⟨b0, b1, b2, b3, b4, b5⟩ := box6 h1
              go_wp2_with fail
              have z1 := (hx.trans h1).cell hcj
              have z2 := (hx.trans h1).cell htk
              go_quiet (fail)
              rw [HPE.out]
              have g1 : IntKind.i64.wrap (s * x) = s * x := IntWalk.i64_in _ (by have := X1.out; have := M1.out; omega)
              have g2 : decide (y < s * x) = false := by have := X1.out; simp; omega
              have g3 : IntKind.i64.wrap (s + 1) = s + 1 := IntWalk.i64_in _ (by omega)
              have g4 : IntKind.i64.wrap ((s + 1) * x) = (s + 1) * x := IntWalk.i64_in _ (by have := X1.out; have := M1.out; have := M2.out; omega)
              have g5 : decide ((s + 1) * x ≤ y) = false := by have := X2.out; simp; omega
              have g6 : IntKind.i64.wrap (p * pe) = p * pe := IntWalk.i64_in _ (by have := X4.out; have := M3.out; omega)
              have g7 : decide (p * pe < s) = false := by have := X3.out; simp; omega
              have g8 : IntKind.i64.wrap (s + pe) = s + pe := IntWalk.i64_in _ (by omega)
              have g9 : decide (s + pe ≤ p * pe) = false := by have := X4.out; simp; omega
              go_wp2_with fail
              go_quiet (fail)
              have g10 : IntKind.i64.wrap (p * c.page) = p * c.page := IntWalk.i64_in _ (by have := PB.out; omega)
              have g11 := PB.out
              go_wp2_with fail
              go_roundw
              case rel => exact ⟨j + 1, by omega, by go_num, by rw [HU.out], h1.drewN _⟩
              case measure => simp [intOf]; omega
            · obtain rfl : j = c.cl.length := by omega
              rw [← HWD.out]
              go_wp2_with fail
              go_roundw
              case rel => exact ⟨k + 1, by omega, by go_num, by rw [HSUC.out], h1⟩
              case measure => simp [intOf]; omega
        · obtain rfl : k = c.ts.length := by omega
          go_wp2_with fail
          refine (conf_Total c _ _ HTOT.out (H.out.ext (hx.trans h1))).mono ?_
          rintro e w7 ⟨rfl, h2⟩
          replace h1 := h1.trans h2
          clear h2
          obtain ⟨b0, b1, b2, b3, b4, b5⟩ := box6 h1
          go_wp2_with fail
          all_goals (try clear b0 b1 b2 b3 b4 b5)
          refine (law06_awake _).mono ?_
          rintro e w8 ⟨rfl, h2⟩
          replace h1 := h1.trans h2
          clear h2
          go_wp2_with fail
          go_ret
          exact ⟨rfl, hx.trans h1⟩
    · have h2 : kcheck c = 2 := (kcheck_01 _).resolve_left h0
      have H2 := Lib.hid h2
      clear h0 h2
      go_enter Try.func6, Try.ntmps6
      go_wp2_with fail
      try clear b0 b1 b2 b3 b4 b5
      refine (ref06_Small c true HS.out (H.out.ext (hx.trans h1))).mono ?_
      rintro e w9 ⟨rfl, h2⟩
      replace h1 := h1.trans h2
      clear h2
      obtain ⟨b0, b1, b2, b3, b4, b5⟩ := box6 h1
      go_wp2_with fail
      refine (conf_Check' c 2 H2.out (H.out.ext (hx.trans h1))).mono ?_
      rintro e w10 ⟨rfl, h2⟩
      replace h1 := h1.trans h2
      clear h2
      obtain ⟨b0, b1, b2, b3, b4, b5⟩ := box6 h1
      go_wp2_with fail
      all_goals (try clear b0 b1 b2 b3 b4 b5)
      refine (law06_awake _).mono ?_
      rintro e w11 ⟨rfl, h2⟩
      replace h1 := h1.trans h2
      clear h2
      go_wp2_with fail
      go_ret
      exact ⟨rfl, hx.trans h1⟩
  · have HS := Lib.hid (show decide (c.cl.length ≤ 50 ∧ c.ts.length ≤ 50) = false by simpa using hs)
    clear hs
    go_enter Try.func6, Try.ntmps6
    go_wp2_with fail
    refine (ref06_Small c false HS.out (H.out.ext (hx.trans h1))).mono ?_
    rintro e w12 ⟨rfl, h2⟩
    replace h1 := h1.trans h2
    clear h2
    obtain ⟨b0, b1, b2, b3, b4, b5⟩ := box6 h1
    go_wp2_with fail
    all_goals (try clear b0 b1 b2 b3 b4 b5)
    refine (law06_awake _).mono ?_
    rintro e w13 ⟨rfl, h2⟩
    replace h1 := h1.trans h2
    clear h2
    go_wp2_with fail
    go_ret
    exact ⟨rfl, hx.trans h1⟩

end Go.Proofs.Ytcnaabkimgkpbaa
