/-
  commonagelaw14: same; the walk of PinsPlay.
-/
import Derived.Test.YtfhnjecnamgpkaaDoorLaw14b
import Derived.Test.YtfhnjecnamgpkaaDoorPins7
namespace Go.Proofs.YtfhnjecnamgpkaaDoor
open Go.RowKit

theorem pget_nat {ms : List Int} {k : Nat} (h : k < ms.length) : pget ms (k : Int) = nth ms k := by unfold pget; rw [if_pos (by omega), Int.toNat_natCast]
theorem pget_out {ms : List Int} {i : Int} (h : ¬ (0 ≤ i ∧ i < ms.length)) : pget ms i = 0 := by unfold pget; rw [if_neg h]

set_option maxRecDepth 100000 in
set_option maxHeartbeats 8000000 in
theorem law14_same {b rb rg g : Nat} {a : Option Addr} {cap N : Nat} {fm : Int} (ms : List Int) {w : World} (hn : ms.length = N) (h : PinAt w b rb rg g ms) (h' : At .i64 w a ms) (hT : Tab w) :
    Calls Tryd.prog 43 #[.pointer (some ⟨b, 0, none⟩), .slice a N cap, .int .i64 fm] w fun e w' => e = .returned (.bool true) ∧ Ext w w' := by
  subst hn
  have hm := h.most
  obtain ⟨p, q, hpq⟩ := next_exists (pbs ms) fm true
  obtain ⟨L, hL⟩ : ∃ L, pall ms ms.length = L := ⟨_, rfl⟩
  have L1 : L.length ≤ 65536 := by rw [← hL]; exact Nat.le_trans (pall_small _ _) hm
  have LM := Lib.hid (show L.length ≤ maxLen by unfold maxLen; omega)
  have LC := Lib.hid (show bcnt (pbs ms) (pbs ms).length = L.length by rw [← hL, pall_len, pbs_len])
  have PQ := Lib.hid hpq; have HL := Lib.hid hL; have H := Lib.hid h; have H' := Lib.hid h'; have HT := Lib.hid hT
  clear h h' hT hpq hL
  go_enter Tryd.func43, Tryd.ntmps43
  go_wp2_with fail
  refine (pins_Next ms p q H.out HT.out PQ.out).mono ?_
  rintro e w1 ⟨rfl, x⟩
  have X := Lib.hid x
  clear x
  go_wp2_with fail
  refine (ref14_Next ms p q (H'.out.ext X.out) hm PQ.out).mono ?_
  rintro e w2 ⟨rfl, rfl⟩
  go_wp2_with fail
  refine (pins_Len ms (H.out.ext X.out)).mono ?_
  rintro e w1000 ⟨rfl, rfl⟩
  go_wp2_with fail
  refine (pins_All ms (H.out.ext X.out) (HT.out.ext X.out)).mono ?_
  rw [HL.out]
  rintro e w2 ⟨a1, c1, rfl, n1, x⟩
  have N1 := Lib.hid n1.row
  replace X := Lib.hid (X.out.trans x)
  clear n1 x
  go_wp2_with fail
  refine (ref14_All ms (H'.out.ext X.out) hm).mono ?_
  rw [HL.out]
  rintro e w3 ⟨a2, c2, rfl, n2, x⟩
  have N2 := Lib.hid n2.row
  replace N1 := Lib.hid (N1.out.ext x)
  replace X := Lib.hid (X.out.trans x)
  clear n2 x
  go_wp2_with fail
  refine (ref14_Same L L true (by simp) N1.out N2.out LM.out LM.out).mono ?_
  rintro e w4 ⟨rfl, x⟩
  replace X := Lib.hid (X.out.trans x)
  clear x N1 N2
  go_wp2_with fail
  refine (pins_Any ms L.length (H.out.ext X.out) LC.out).mono ?_
  rintro e w1000 ⟨rfl, rfl⟩
  go_wp2_with fail
  refine (ref14_All ms (H'.out.ext X.out) hm).mono ?_
  rw [HL.out]
  rintro e w5 ⟨a3, c3, rfl, n3, x⟩
  replace X := Lib.hid (X.out.trans x)
  clear n3 x
  go_wp2_with fail
  go_loopw [11] (fun i wr => ∃ k : Nat, k ≤ ms.length ∧ i = .int .i64 k ∧ Hid (Ext w wr)) (fun i _ => ms.length - (intOf i).toNat)
  case atStart => exact ⟨0, Nat.zero_le _, rfl, X⟩
  case round =>
    obtain ⟨k, hk, rfl, HX⟩ := hrel
    by_cases hlt : k < ms.length
    · obtain ⟨x, o, rfl, hc⟩ := H'.out.pos (by omega)
      have z1 := HX.out.cell (hc k hlt)
      have PG := Lib.hid (pget_nat hlt)
      have HK := Lib.hid (H.out.ext HX.out)
      clear hc
      generalize nth ms k = y at *
      go_wp2_with fail
      go_quiet ((go_at_call 35; exact Calls.quiet_of_same (flip (pins_Count ms y (HK.out.ext ((Ext.refl _).drewN _)) PG.out))))
      go_wp2_with fail
      go_roundw
      case rel => exact ⟨k + 1, by omega, by go_num, HX.out.drewN _⟩
      case measure => simp [intOf]; omega
    · obtain rfl : k = ms.length := by omega
      have G1 := Lib.hid (pget_out (ms := ms) (i := -1) (by omega))
      have G2 := Lib.hid (pget_out (ms := ms) (i := ((ms.length : Nat) : Int)) (by omega))
      go_wp2_with fail
      refine (pins_Count ms 0 (H.out.ext HX.out) G1.out).mono ?_
      rintro e w1000 ⟨rfl, rfl⟩
      go_wp2_with fail
      refine (pins_Count ms 0 (H.out.ext HX.out) G2.out).mono ?_
      rintro e w1000 ⟨rfl, rfl⟩
      go_wp2_with fail
      go_ret
      exact ⟨rfl, HX.out⟩

theorem bcnt_none (n : Nat) : ∀ k, bcnt (List.replicate n false) k = 0
  | 0 => rfl
  | k + 1 => by rw [bcnt_succ, bcnt_none n k, bnth_rep0]; rfl
theorem ref14_PinN {a : Option Addr} {cap N : Nat} {i : Int} (ms ms' : List Int) (q : Int) {w : World} (hn : ms.length = N) (h : At .i64 w a ms) (sm : ∀ x ∈ ms, 0 ≤ x ∧ x ≤ 255) (hl : N ≤ 65536) (hr : pturn false ms i = (ms', q)) :
    Calls Tryd.prog 42 #[.slice a N cap, .int .i64 i] w (SetInts a ms' q w) := by
  subst hn; exact ref14_Pin ms ms' q h sm hl hr
theorem ref14_UnpinN {a : Option Addr} {cap N : Nat} {i : Int} (ms ms' : List Int) (q : Int) {w : World} (hn : ms.length = N) (h : At .i64 w a ms) (sm : ∀ x ∈ ms, 0 ≤ x ∧ x ≤ 255) (hl : N ≤ 65536) (hr : pturn true ms i = (ms', q)) :
    Calls Tryd.prog 41 #[.slice a N cap, .int .i64 i] w (SetInts a ms' q w) := by
  subst hn; exact ref14_Unpin ms ms' q h sm hl hr

set_option maxRecDepth 100000 in
set_option maxHeartbeats 16000000 in
theorem law14_PinsPlay {la : Option Addr} {lc : Nat} (n : Int) (l : List PAct) (fm : Int) (w : World) (hT : Tab w) (h : PActAt w la l) (hl : l.length ≤ maxLen) :
    Calls Tryd.prog 11 #[.int .i64 n, .slice la l.length lc, .int .i64 fm] w fun e w' => e = .returned (.bool true) ∧ Ext w w' := by
  have HT := Lib.hid hT; have H := Lib.hid h
  unfold maxLen at hl
  clear hT h
  by_cases hn : n < 0 ∨ 65536 < n
  · have HN := Lib.hid hn
    rcases hn with hn | hn
    all_goals
      go_enter Tryd.func11, Tryd.ntmps11
      go_wp2_with fail
      refine (pins_New_no n HN.out).mono ?_
      rintro e w1000 ⟨rfl, rfl⟩
      go_wp2_with fail
      refine (law14_awake _ HT.out).mono ?_
      rintro e wz ⟨rfl, x⟩
      go_wp2_with fail
      go_ret
      exact ⟨rfl, x⟩
  · obtain ⟨N, rfl⟩ : ∃ N : Nat, n = N := ⟨n.toNat, by omega⟩
    have hN : N ≤ 65536 := by omega
    have n0 : decide ((N : Int) < 0) = false := by simp
    have n1 : decide ((65536 : Int) < (N : Int)) = false := by simp; omega
    have HZ := Lib.hid (show (List.replicate N (0 : Int)).length = N by rw [List.length_replicate])
    clear hn
    by_cases h100 : 100 < N
    · have HC := Lib.hid (show bcnt (pbs (List.replicate N 0)) (pbs (List.replicate N 0)).length = 0 by rw [pbs_zero]; exact bcnt_none _ _)
      go_enter Tryd.func11, Tryd.ntmps11
      go_wp2_with fail
      refine (pins_New N hN).mono ?_
      rintro e w1 ⟨b, rb, rg, g, rfl, hp, b1, b2, b3, x1⟩
      have HP := Lib.hid hp; have X1 := Lib.hid x1
      clear hp x1 b1 b2 b3
      go_wp2_with fail
      refine (pins_LenN _ HZ.out HP.out).mono ?_
      rintro e w1000 ⟨rfl, rfl⟩
      go_wp2_with fail
      refine (pins_Any _ 0 HP.out HC.out).mono ?_
      rintro e w1000 ⟨rfl, rfl⟩
      go_wp2_with fail
      refine (law14_awake _ (HT.out.ext X1.out)).mono ?_
      rintro e wz ⟨rfl, x⟩
      go_wp2_with fail
      go_ret
      exact ⟨rfl, X1.out.trans x⟩
    · have hmk := make_ints N hN
      have h100' : N ≤ 100 := by omega
      clear h100
      go_enter Tryd.func11, Tryd.ntmps11
      go_wp2_with fail
      refine (pins_New N hN).mono ?_
      rintro e w1 ⟨b, rb, rg, g, rfl, hp, b1, b2, b3, x1⟩
      have HP := Lib.hid hp; have X1 := Lib.hid x1
      clear hp x1 b1 b2 b3
      go_wp2_with fail
      go_loopw [7, 9, 10] (fun pv qv i wr => ∃ (k : Nat) (ms : List Int) (b rb rg g : Nat) (aq : Option Addr) (cq : Nat), k ≤ l.length ∧ k ≤ 30 ∧ i = .int .i64 k ∧ pv = .pointer (some ⟨b, 0, none⟩) ∧ qv = .slice aq N cq ∧ Hid (ms.length = N) ∧ Hid (PinAt wr b rb rg g ms) ∧ Hid (At .i64 wr aq ms) ∧ Hid (Ext w wr)) (fun _ _ i _ => 30 - (intOf i).toNat)
      case atStart => exact ⟨0, _, b, rb, rg, g, _, _, Nat.zero_le _, Nat.zero_le _, rfl, rfl, rfl, HZ, HP.out.ext ((Ext.refl _).alloc _), made_ints, X1.out.alloc _⟩
      case round =>
        clear HP X1 HZ hmk
        obtain ⟨k, ms, b, rb, rg, g, aq, cq, hk, hk3, rfl, rfl, rfl, HL, HP, HA, HX⟩ := hrel
        rcases (show (k < l.length ∧ k < 30) ∨ (k < l.length ∧ k = 30) ∨ k = l.length by omega) with ⟨hlt, h30⟩ | ⟨hlt, rfl⟩ | rfl
        · obtain ⟨ok, x, o, rfl, c0, c1, c2⟩ := H.out k hlt
          replace c0 := HX.out.cell c0; replace c1 := HX.out.cell c1; replace c2 := HX.out.cell c2
          obtain ⟨ok1, ok2⟩ := ok
          generalize pActnth l k = y at *
          obtain ⟨slot, less, times⟩ := y
          dsimp only at ok1 ok2 c0 c1 c2
          obtain ⟨tn, rfl⟩ : ∃ tn : Nat, times = tn := ⟨times.toNat, by omega⟩
          have t1 : tn ≤ 255 := by omega
          have C0 := Lib.hid c0; have C1 := Lib.hid c1; have C2 := Lib.hid c2
          clear ok1 ok2 c0 c1 c2
          go_wp2_with fail
          refine (pins_Copy ms HP.out).mono ?_
          rintro e w2 ⟨b2, rb2, rg2, g2, rfl, hp2, k1, k2, k3, x2⟩
          have HP2 := Lib.hid hp2; have X2 := Lib.hid x2
          have K3 := Lib.hid (show 0 < N → wr.heap.size ≤ rg2 ∧ wr.heap.size ≤ g2 from fun hp => k3 (by rw [HL.out]; exact hp))
          have SEP : Hid (0 < N → ∀ x o, aq = some ⟨x, o, none⟩ → x ≠ rg2 ∧ x ≠ g2) := Lib.hid fun hp x o e => by
            obtain ⟨x', o', e', hc⟩ := HA.out 0 (by rw [HL.out]; exact hp)
            rw [e'] at e; cases e
            have := cell_lt hc; have := K3.out hp
            dsimp only at *
            omega
          have HA2 := Lib.hid (HA.out.ext x2)
          clear hp2 x2 k3
          go_wp2_with fail
          go_loopw [9, 14] (fun qv jv wq => ∃ (j : Nat) (ms' : List Int) (aq' : Option Addr) (cq' : Nat), j ≤ tn + 1 ∧ jv = .int .i64 j ∧ qv = .slice aq' N cq' ∧ Hid (ms'.length = N) ∧ Hid (PinAt wq b2 rb2 rg2 g2 ms') ∧ Hid (At .i64 wq aq' ms') ∧ Hid (0 < N → ∀ x o, aq' = some ⟨x, o, none⟩ → x ≠ rg2 ∧ x ≠ g2) ∧ Hid (Ext wr wq)) (fun _ jv _ => tn + 1 - (intOf jv).toNat)
          case atStart => exact ⟨0, ms, aq, cq, Nat.zero_le _, rfl, rfl, HL, HP2, HA2, SEP, X2⟩
          case round =>
            clear HP2 HA2 SEP X2
            obtain ⟨j, ms', aq', cq', hj, rfl, rfl, HL', HP', HA', SEP, HX'⟩ := hrel
            have z0 := HX'.out.cell C0.out; have z1 := HX'.out.cell C1.out; have z2 := HX'.out.cell C2.out
            by_cases hjt : j < tn + 1
            · obtain ⟨ms2, qq, hr⟩ : ∃ ms2 qq, pturn less ms' slot = (ms2, qq) := ⟨_, _, rfl⟩
              have HL2 := Lib.hid ((pturn_len hr).trans HL'.out)
              have SM := Lib.hid HP'.out.small
              cases less
              all_goals
                have HR := Lib.hid hr
                clear hr
                go_wp2_with fail
                first
                  | refine (ref14_PinN ms' ms2 qq HL'.out HA'.out SM.out hN HR.out).mono ?_
                  | refine (ref14_UnpinN ms' ms2 qq HL'.out HA'.out SM.out hN HR.out).mono ?_
                rintro e w3 ⟨a3, c3, rfl, hA3, hF, x3⟩
                rw [HL2.out]
                have A3 := Lib.hid hA3; have F3 := Lib.hid hF; have HP3 := Lib.hid (HP'.out.ext x3); have X3 := Lib.hid (HX'.out.trans x3)
                clear hA3 hF x3 z0 z1 z2
                have z0 := X3.out.cell C0.out; have z1 := X3.out.cell C1.out; have z2 := X3.out.cell C2.out
                go_wp2_with fail
                first
                  | refine (pins_Pin ms' ms2 qq HP3.out HR.out).mono ?_
                  | refine (pins_Unpin ms' ms2 qq HP3.out HR.out).mono ?_
                rintro e w4 ⟨rfl, hp4, hc4⟩
                have SEP4 : Hid (0 < N → ∀ x o, a3 = some ⟨x, o, none⟩ → x ≠ rg2 ∧ x ≠ g2) := Lib.hid fun hp x o e => by
                  rcases F3.out with rfl | hF
                  · exact SEP.out hp x o e
                  · have h1 := hF x o e
                    have h2 := HP'.out.glt (by rw [HL'.out]; exact hp)
                    omega
                have HP4 := Lib.hid hp4
                have A4 := Lib.hid (A3.out.chg hc4 fun x o e hp0 hx => by
                  have hN0 : 0 < N := by rw [← HL2.out]; exact hp0
                  have := SEP4.out hN0 x o e
                  obtain ⟨_, e2⟩ := hx
                  omega)
                have X4 := Lib.hid (hc4.over X3.out fun k' ⟨hp0, e2⟩ => by
                  have := K3.out (by rw [← HL'.out]; exact hp0)
                  omega)
                clear hp4 hc4 z0 z1 z2
                go_wp2_with fail
                go_roundw
                case rel => exact ⟨j + 1, ms2, a3, c3, by omega, by go_num, rfl, HL2, HP4, A4, SEP4, X4⟩
                case measure => simp [intOf]; omega
            · obtain rfl : j = tn + 1 := by omega
              go_wp2_with fail
              refine (law14_same ms' HL'.out HP'.out HA'.out (HT.out.ext (HX.out.trans HX'.out))).mono ?_
              rintro e w5 ⟨rfl, x5⟩
              have X5 := Lib.hid (HX'.out.trans x5)
              have HP5 := Lib.hid (HP'.out.ext x5); have HA5 := Lib.hid (HA'.out.ext x5)
              clear x5 z0 z1 z2
              go_wp2_with fail
              refine (law14_same ms HL.out (HP.out.ext X5.out) (HA.out.ext X5.out) (HT.out.ext (HX.out.trans X5.out))).mono ?_
              rintro e w6 ⟨rfl, x6⟩
              have X6 := Lib.hid (HX.out.trans (X5.out.trans x6))
              have HP6 := Lib.hid (HP5.out.ext x6); have HA6 := Lib.hid (HA5.out.ext x6)
              clear x6
              go_wp2_with fail
              go_roundw
              case rel => exact ⟨k + 1, ms', b2, rb2, rg2, g2, aq', cq', by omega, by omega, by go_num, rfl, rfl, HL', HP6, HA6, X6⟩
              case measure => simp [intOf]; omega
        all_goals
          go_wp2_with fail
          refine (law14_awake _ (HT.out.ext HX.out)).mono ?_
          rintro e wz ⟨rfl, x⟩
          go_wp2_with fail
          go_ret
          exact ⟨rfl, HX.out.trans x⟩

end Go.Proofs.YtfhnjecnamgpkaaDoor
