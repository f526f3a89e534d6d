/-
  The walk of commonagelaw14.PinsCount.
-/
import Derived.Test.YtfhnjecnamgpkaaDoorLaw14b
namespace Go.Proofs.YtfhnjecnamgpkaaDoor
open Go.RowKit

theorem pget_natc {ms : List Int} {k : Nat} (h : k < ms.length) : pget ms (k : Int) = nth ms k := by unfold pget; rw [if_pos (by omega), Int.toNat_natCast]

set_option maxRecDepth 100000 in
set_option maxHeartbeats 16000000 in
theorem law14_PinsCount {la : Option Addr} {lc : Nat} (sl : Int) (l : List PAct) (w : World) (hT : Tab w) (hs : 0 ≤ sl ∧ sl ≤ 255) (h : PActAt w la l) (hl : l.length ≤ maxLen) :
    Calls Tryd.prog 10 #[.int .u8 sl, .slice la l.length lc] w fun e w' => e = .returned (.bool true) ∧ Ext w w' := by
  have HT := Lib.hid hT; have H := Lib.hid h
  unfold maxLen at hl
  obtain ⟨M, hM⟩ : ∃ M : Nat, sl % 64 = M := ⟨(sl % 64).toNat, by omega⟩
  have s0 := hs.1; have s1 := hs.2
  have hM64 : M ≤ 63 := by omega
  obtain ⟨N, hN⟩ : ∃ N, N = M + 1 := ⟨_, rfl⟩
  have hN1 : (1 : Int) + (M : Int) = (N : Int) := by omega
  have hmk := make_ints N (by omega)
  have hNp : 0 < N := by omega
  have hN64 : N ≤ 64 := by omega
  clear hT h hs
  go_enter Tryd.func10, Tryd.ntmps10
  go_wp2_with fail
  rw [show ((M : Int) + 1) = (N : Int) by omega]
  refine (pins_New N (by omega)).mono ?_
  rintro e w1 ⟨b, rb, rg, g, rfl, hp, b1, b2, b3, x1⟩
  have HP := Lib.hid hp; have X1 := Lib.hid x1
  replace b3 := b3 hNp
  have lt := hp.glt (by rw [List.length_replicate]; exact hNp)
  have LT := Lib.hid lt
  have HZ := Lib.hid (show (List.replicate N (0 : Int)).length = N by rw [List.length_replicate])
  clear hp x1 lt hN1 hN hM
  go_wp2_with fail
  refine (pins_LenN _ HZ.out HP.out).mono ?_
  rintro e w2 ⟨rfl, rfl⟩
  go_wp2_with fail
  have P0 : PC w b rb rg g w1.heap.size N (List.replicate N 0) (List.replicate N 0) (w1.alloc (.cells (madeCells #[.int .i64 0] N) 3)) :=
    ⟨HP.out.ext ((Ext.refl _).alloc _), made_ints, fun o => by simp, X1.out.alloc _, HZ.out, HZ.out, b3, LT.out, by simp, hNp⟩
  have HP0 := Lib.hid P0
  have hgm : w.heap.size ≤ w1.heap.size := X1.out.size
  clear P0 HP LT
  generalize w1.heap.size = gm at *
  go_loopw [8] (fun i wr => ∃ (k : Nat) (ms : List Int), k ≤ l.length ∧ k ≤ 60 ∧ i = .int .i64 k ∧ Hid (PC w b rb rg g gm N ms ms wr)) (fun i _ => 60 - (intOf i).toNat)
  case atStart => exact ⟨0, _, Nat.zero_le _, Nat.zero_le _, rfl, HP0⟩
  case round =>
    obtain ⟨k, ms, hk, hk6, rfl, HC⟩ := hrel
    rcases (show (k < l.length ∧ k < 60) ∨ (k < l.length ∧ k = 60) ∨ k = l.length by omega) with ⟨hlt, h60⟩ | ⟨hlt, rfl⟩ | rfl
    · obtain ⟨ok, x, o, rfl, c0, c1, c2⟩ := H.out k hlt
      have z0 := HC.out.ext.cell c0; have z1 := HC.out.ext.cell c1; have z2 := HC.out.ext.cell c2
      obtain ⟨ok1, ok2⟩ := ok
      clear c0 c1 c2
      generalize pActnth l k = y at *
      obtain ⟨slot, less, times⟩ := y
      have t0 := ok2.1; have t1 := ok2.2; have i0 := ok1.1; have i1 := ok1.2
      clear ok1 ok2
      dsimp only at t0 t1 i0 i1 z0 z1 z2
      obtain ⟨wo, hwo⟩ : ∃ wo : World, wo = wr := ⟨_, rfl⟩
      subst hwo
      have t60 : decide ((k : Int) < 60) = true := by simp; omega
      obtain ⟨tn, rfl⟩ : ∃ tn : Nat, times = tn := ⟨times.toNat, by omega⟩
      have tn1 : tn ≤ 255 := by omega
      clear t0 t1
      have XB0 : Hid (XBox (wo.alloc (.cells #[.int .i64 slot, .bool less, .int .u8 tn] 65)) wo.heap.size slot less tn) := Lib.hid ⟨cell_newN _ _ _ 0, cell_newN _ _ _ 1, cell_newN _ _ _ 2⟩
      have HC0 : Hid (PC w b rb rg g gm N ms ms (wo.alloc (.cells #[.int .i64 slot, .bool less, .int .u8 tn] 65))) := Lib.hid (HC.out.go ((Ext.refl _).alloc _))
      go_wp2_with fail
      clear z0 z1 z2
      have GL := Lib.hid HC.out.hi
      generalize wo.heap.size = bx at *
      have SP := Lib.hid HC.out.sep
      have nb : ¬ gm = bx := by have := GL.out; omega
      have nb2 : ¬ bx = gm := by have := GL.out; omega
      go_loopw [10] (fun jv wq => ∃ (j : Nat) (ms : List Int), j ≤ tn + 1 ∧ jv = .int .i64 j ∧ Hid (XBox wq bx slot less tn) ∧ Hid (PC w b rb rg g gm N ms ms wq)) (fun jv _ => tn + 1 - (intOf jv).toNat)
      case atStart => exact ⟨0, ms, Nat.zero_le _, rfl, XB0, HC0⟩
      case round =>
        clear XB0 HC0 HC
        obtain ⟨j, ms, hj, rfl, XB, HC⟩ := hrel
        have bx0 := XB.out.1; have bx1 := XB.out.2.1; have bx2 := XB.out.2.2
        by_cases hjt : j < tn + 1
        · obtain ⟨ms2, qq, hr⟩ : ∃ ms2 qq, pturn less ms slot = (ms2, qq) := ⟨_, _, rfl⟩
          have HL2 := Lib.hid ((pturn_len hr).trans HC.out.len)
          by_cases hin : 0 ≤ slot ∧ slot < N
          · obtain ⟨n, rfl⟩ := Int.eq_ofNat_of_zero_le hin.1
            have hnN : n < N := by omega
            have hnm : n < ms.length := by rw [HC.out.len]; exact hnN
            have sm := HC.out.pin.small _ (nth_mem hnm)
            have sm0 := sm.1; have sm1 := sm.2
            obtain ⟨_, _, e0, hcn⟩ := HC.out.row n hnm
            cases e0
            rw [Nat.zero_add] at hcn
            have CN := Lib.hid hcn
            have hr2 := hr
            unfold pturn at hr2
            rw [if_pos (show (0 : Int) ≤ (n : Int) ∧ (n : Int) < (ms.length : Int) by omega), Int.toNat_natCast] at hr2
            have HR := Lib.hid hr
            clear hr sm hcn hin i0 i1
            cases less
            · by_cases ht : nth ms n < 255
              · simp [ht] at hr2
                obtain ⟨rfl, rfl⟩ := hr2
                generalize hy : nth ms n = y at *
                have HY := Lib.hid hy
                clear hy
                go_wp2_with fail
                refine (pins_Pin ms _ _ HC.out.pin HR.out).mono ?_
                rintro e w3 ⟨rfl, hp3, hc3⟩
                have PC3 := Lib.hid (HC.out.turned hp3 HL2.out hc3)
                have XB3 := Lib.hid (XB.out.chg hc3 (by rintro ⟨_, e⟩; have := GL.out; have := SP.out; omega))
                have d0 := XB3.out.1; have d1 := XB3.out.2.1; have d2 := XB3.out.2.2
                clear hp3 hc3 bx0 bx1 bx2
                have dn := PC3.out.row n (by rw [PC3.out.len2]; exact hnN)
                obtain ⟨_, _, e0, dn⟩ := dn
                cases e0
                rw [Nat.zero_add] at dn
                have fz := PC3.out.fz n
                try rw [HY.out] at dn
                go_wp2_with fail
                have PC4 := Lib.hid (PC3.out.stored hnN hgm (y + 1))
                have XB4 := Lib.hid (XB3.out.chg ((Chg.refl (fun k => k = gm) _).setCell (p := ⟨gm, n, none⟩) (.inl rfl) (.int .i64 (y + 1))) (fun e => by have := GL.out; omega))
                go_roundw
                case rel => exact ⟨j + 1, _, by omega, by go_num, XB4, PC4⟩
                case measure => simp [intOf]; omega
              · simp [ht] at hr2
                obtain ⟨rfl, rfl⟩ := hr2
                generalize hy : nth ms n = y at *
                have HY := Lib.hid hy
                clear hy
                obtain rfl : y = 255 := by omega
                go_wp2_with fail
                refine (pins_Pin ms _ _ HC.out.pin HR.out).mono ?_
                rintro e w3 ⟨rfl, hp3, hc3⟩
                have PC3 := Lib.hid (HC.out.turned hp3 HL2.out hc3)
                have XB3 := Lib.hid (XB.out.chg hc3 (by rintro ⟨_, e⟩; have := GL.out; have := SP.out; omega))
                have d0 := XB3.out.1; have d1 := XB3.out.2.1; have d2 := XB3.out.2.2
                clear hp3 hc3 bx0 bx1 bx2
                have dn := PC3.out.row n (by rw [PC3.out.len2]; exact hnN)
                obtain ⟨_, _, e0, dn⟩ := dn
                cases e0
                rw [Nat.zero_add] at dn
                have fz := PC3.out.fz n
                try rw [HY.out] at dn
                go_wp2_with fail
                go_roundw
                case rel => exact ⟨j + 1, ms, by omega, by go_num, XB3, PC3⟩
                case measure => simp [intOf]; omega
            · by_cases ht : 0 < nth ms n
              · simp [ht] at hr2
                obtain ⟨rfl, rfl⟩ := hr2
                generalize hy : nth ms n = y at *
                have HY := Lib.hid hy
                clear hy
                go_wp2_with fail
                refine (pins_Unpin ms _ _ HC.out.pin HR.out).mono ?_
                rintro e w3 ⟨rfl, hp3, hc3⟩
                have PC3 := Lib.hid (HC.out.turned hp3 HL2.out hc3)
                have XB3 := Lib.hid (XB.out.chg hc3 (by rintro ⟨_, e⟩; have := GL.out; have := SP.out; omega))
                have d0 := XB3.out.1; have d1 := XB3.out.2.1; have d2 := XB3.out.2.2
                clear hp3 hc3 bx0 bx1 bx2
                have dn := PC3.out.row n (by rw [PC3.out.len2]; exact hnN)
                obtain ⟨_, _, e0, dn⟩ := dn
                cases e0
                rw [Nat.zero_add] at dn
                have fz := PC3.out.fz n
                try rw [HY.out] at dn
                go_wp2_with fail
                have PC4 := Lib.hid (PC3.out.stored hnN hgm (y - 1))
                have XB4 := Lib.hid (XB3.out.chg ((Chg.refl (fun k => k = gm) _).setCell (p := ⟨gm, n, none⟩) (.inl rfl) (.int .i64 (y - 1))) (fun e => by have := GL.out; omega))
                go_roundw
                case rel => exact ⟨j + 1, _, by omega, by go_num, XB4, PC4⟩
                case measure => simp [intOf]; omega
              · simp [ht] at hr2
                obtain ⟨rfl, rfl⟩ := hr2
                generalize hy : nth ms n = y at *
                have HY := Lib.hid hy
                clear hy
                obtain rfl : y = 0 := by omega
                go_wp2_with fail
                refine (pins_Unpin ms _ _ HC.out.pin HR.out).mono ?_
                rintro e w3 ⟨rfl, hp3, hc3⟩
                have PC3 := Lib.hid (HC.out.turned hp3 HL2.out hc3)
                have XB3 := Lib.hid (XB.out.chg hc3 (by rintro ⟨_, e⟩; have := GL.out; have := SP.out; omega))
                have d0 := XB3.out.1; have d1 := XB3.out.2.1; have d2 := XB3.out.2.2
                clear hp3 hc3 bx0 bx1 bx2
                have dn := PC3.out.row n (by rw [PC3.out.len2]; exact hnN)
                obtain ⟨_, _, e0, dn⟩ := dn
                cases e0
                rw [Nat.zero_add] at dn
                have fz := PC3.out.fz n
                try rw [HY.out] at dn
                go_wp2_with fail
                go_roundw
                case rel => exact ⟨j + 1, ms, by omega, by go_num, XB3, PC3⟩
                case measure => simp [intOf]; omega
          · have hr2 := hr
            unfold pturn at hr2
            rw [if_neg (by rw [HC.out.len]; exact hin)] at hr2
            cases hr2
            have HR := Lib.hid hr
            clear hr
            by_cases hneg : slot < 0
            · cases less
              all_goals
                go_wp2_with fail
                first
                  | refine (pins_Pin ms _ _ HC.out.pin HR.out).mono ?_
                  | refine (pins_Unpin ms _ _ HC.out.pin HR.out).mono ?_
                rintro e w3 ⟨rfl, hp3, hc3⟩
                have PC3 := Lib.hid (HC.out.turned hp3 HL2.out hc3)
                have XB3 := Lib.hid (XB.out.chg hc3 (by rintro ⟨_, e⟩; have := GL.out; have := SP.out; omega))
                have d0 := XB3.out.1; have d1 := XB3.out.2.1; have d2 := XB3.out.2.2
                clear hp3 hc3 bx0 bx1 bx2
                go_wp2_with fail
                go_roundw
                case rel => exact ⟨j + 1, ms, by omega, by go_num, XB3, PC3⟩
                case measure => simp [intOf]; omega
            · have hge : (N : Int) ≤ slot := by omega
              have hp0 : 0 ≤ slot := by omega
              have tN : decide (slot < (N : Int)) = false := by simp; omega
              clear hin hneg
              cases less
              all_goals
                go_wp2_with fail
                first
                  | refine (pins_Pin ms _ _ HC.out.pin HR.out).mono ?_
                  | refine (pins_Unpin ms _ _ HC.out.pin HR.out).mono ?_
                rintro e w3 ⟨rfl, hp3, hc3⟩
                have PC3 := Lib.hid (HC.out.turned hp3 HL2.out hc3)
                have XB3 := Lib.hid (XB.out.chg hc3 (by rintro ⟨_, e⟩; have := GL.out; have := SP.out; omega))
                have d0 := XB3.out.1; have d1 := XB3.out.2.1; have d2 := XB3.out.2.2
                clear hp3 hc3 bx0 bx1 bx2
                go_wp2_with fail
                go_roundw
                case rel => exact ⟨j + 1, ms, by omega, by go_num, XB3, PC3⟩
                case measure => simp [intOf]; omega
        · obtain rfl : j = tn + 1 := by omega
          have HLN := Lib.hid HC.out.len
          go_wp2_with fail
          clear XB bx0 bx1 bx2
          clear SP GL
          go_loopw [14] (fun sv wq' => ∃ j : Nat, j ≤ N ∧ sv = .int .i64 j ∧ Hid (PC w b rb rg g gm N ms ms wq')) (fun sv _ => N - (intOf sv).toNat)
          case atStart => exact ⟨0, Nat.zero_le _, rfl, HC⟩
          case round =>
            clear HC
            obtain ⟨j, hj, rfl, HC⟩ := hrel
            by_cases hjN : j < N
            · have hjm : j < ms.length := by rw [HLN.out]; exact hjN
              obtain ⟨_, _, e0, dn⟩ := HC.out.row j hjm
              cases e0
              rw [Nat.zero_add] at dn
              have PG := Lib.hid (pget_natc hjm)
              have HK := Lib.hid HC.out.pin
              generalize nth ms j = y at *
              go_wp2_with fail
              go_quiet ((go_at_call 35; exact Calls.quiet_of_same (flip (pins_Count ms y (HK.out.ext ((Ext.refl _).drewN _)) PG.out))))
              go_wp2_with fail
              go_roundw
              case rel => exact ⟨j + 1, by omega, by go_num, HC.out.go ((Ext.refl _).drewN _)⟩
              case measure => simp [intOf]; omega
            · obtain rfl : j = N := by omega
              obtain ⟨p, q, hpq⟩ := next_exists (pbs ms) ((0 : Nat) : Int) true
              have PQ := Lib.hid hpq
              clear hpq
              go_wp2_with fail
              refine (pins_Next ms p q HC.out.pin (HT.out.ext HC.out.ext) PQ.out).mono ?_
              rintro e w4 ⟨rfl, x4⟩
              have HC4 := Lib.hid (HC.out.go x4)
              clear x4 HC
              go_wp2_with fail
              go_loopw [15, 16, 17, 18] (fun av sv nv qv wq' => ∃ (m : Nat) (p : Int) (q : Bool), m ≤ j ∧ av = .int .i64 m ∧ sv = .int .i64 ((pall ms m).length : Nat) ∧ nv = .int .i64 p ∧ qv = .bool q ∧ Hid (IsNext (pbs ms) m true p q) ∧ Hid (PC w b rb rg g gm j ms ms wq')) (fun av _ _ qv _ => match qv with | .bool true => j + 1 - (intOf av).toNat | _ => 0)
              case atStart => exact ⟨0, p, q, Nat.zero_le _, rfl, rfl, rfl, rfl, PQ, HC4⟩
              case round =>
                clear HC4 PQ
                obtain ⟨m, p, q, hm, rfl, rfl, rfl, rfl, HN, HC⟩ := hrel
                cases q
                · have PE := Lib.hid (pall_end HN.out (by rw [HLN.out]; exact hm))
                  have PE2 := Lib.hid (show bcnt (pbs ms) (pbs ms).length = (pall ms m).length by rw [← PE.out, pall_len, pbs_len])
                  obtain ⟨L, hL⟩ : ∃ L, pall ms m = L := ⟨_, rfl⟩
                  rw [HLN.out] at PE
                  rw [hL] at PE PE2 ⊢
                  clear hL
                  go_wp2_with fail
                  refine (pins_Any ms L.length HC.out.pin PE2.out).mono ?_
                  rintro e w1000 ⟨rfl, rfl⟩
                  go_wp2_with fail
                  refine (ref14_AllN ms HLN.out HC.out.row (by omega)).mono ?_
                  rw [PE.out]
                  rintro e w5 ⟨a5, c5, rfl, n5, x5⟩
                  have HC5 := Lib.hid (HC.out.go x5)
                  clear n5 x5
                  go_wp2_with fail
                  go_roundw
                  case rel => exact ⟨k + 1, ms, by omega, by omega, by go_num, HC5⟩
                  case measure => simp [intOf]; omega
                · obtain ⟨n, rfl⟩ : ∃ n : Nat, p = n := by
                    rcases HN.out with ⟨_, i, e, _⟩ | ⟨e, _⟩
                    · exact ⟨i, e⟩
                    · cases e
                  obtain ⟨e1, h2, h3, h4⟩ := pall_hit HN.out
                  have hnj : n < j := by rw [← HLN.out]; exact h3
                  have E1 := Lib.hid (show (pall ms (n + 1)).length = (pall ms m).length + 1 by rw [e1]; simp)
                  have sm := pall_small ms m
                  obtain ⟨p', q', hpq⟩ := next_exists (pbs ms) ((n + 1 : Nat) : Int) true
                  have PQ2 := Lib.hid hpq
                  obtain ⟨_, _, e0, dn⟩ := HC.out.row n h3
                  cases e0
                  rw [Nat.zero_add] at dn
                  clear e1 hpq
                  generalize nth ms n = y at *
                  generalize (pall ms m).length = L at *
                  have ty : (y == 0) = false := by simp; omega
                  go_wp2_with fail
                  refine (pins_Next ms p' q' HC.out.pin (HT.out.ext HC.out.ext) PQ2.out).mono ?_
                  rintro e w5 ⟨rfl, x5⟩
                  have HC5 := Lib.hid (HC.out.go x5)
                  clear x5
                  go_wp2_with fail
                  go_roundw
                  case rel => exact ⟨n + 1, p', q', by omega, by go_num, by rw [E1.out]; go_num, rfl, rfl, PQ2, HC5⟩
                  case measure =>
                    cases q'
                    · simp [intOf]; omega
                    · simp [intOf]; omega
    all_goals
      go_wp2_with fail
      refine (law14_awake _ (HT.out.ext HC.out.ext)).mono ?_
      rintro e wz ⟨rfl, x⟩
      go_wp2_with fail
      go_ret
      exact ⟨rfl, HC.out.ext.trans x⟩

end Go.Proofs.YtfhnjecnamgpkaaDoor
