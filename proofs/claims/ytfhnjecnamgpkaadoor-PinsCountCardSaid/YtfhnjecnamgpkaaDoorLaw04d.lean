/-
  The walk of commonagelaw04.BitsApart.
-/
import Derived.Test.YtfhnjecnamgpkaaDoorLaw04c
namespace Go.Proofs.YtfhnjecnamgpkaaDoor
open Go.RowKit

theorem row_Set_any {b g : Nat} {i : Int} {is : Bool} (bs : List Bool) {w : World} (h : RowAt w b g bs) :
    Calls Tryd.prog 27 #[.pointer (some ⟨b, 0, none⟩), .int .i64 i, .bool is] w fun e w' => ∃ q bs', e = .returned (.int .i64 q) ∧ bs'.length = bs.length ∧ RowAt w' b g bs' ∧ Chg (tch g bs) w w' :=
  (row_Set bs (bsetR bs i is).1 (bsetR bs i is).2 h rfl).mono fun _ _ ⟨h1, h2, h3⟩ => ⟨_, _, h1, bsetR_len bs i is, h2, h3⟩

theorem law04_sameN {b g n : Nat} {a : Option Addr} {cap : Nat} (bs : List Bool) {w : World} (hn : bs.length = n) (h : RowAt w b g bs) (h' : BAt w a bs) :
    Calls Tryd.prog 16 #[.pointer (some ⟨b, 0, none⟩), .slice a n cap] w fun e w' => e = .returned (.bool true) ∧ Ext w w' := by
  subst hn; exact law04_same bs h h'
theorem none_of {w w1 : World} {v0 v1 : Value} {t : TypeId} (hx : Ext (w.alloc (.cells #[v0, v1, .bool false] t)) w1) : NoneAt w1 (some ⟨w.heap.size, 0, none⟩) true :=
  .inr ⟨_, rfl, hx.cell (cell_newN w _ t 2)⟩

set_option maxRecDepth 100000 in
set_option maxHeartbeats 8000000 in
theorem law04_BitsApart {la ma : Option Addr} {lc mc : Nat} (n : Int) (l m : List Int) (w : World) (hT : Tab w) (hn : 0 ≤ n ∧ n ≤ 65535) (h : At .u16 w la l) (hl : l.length ≤ maxLen) (hb : ∀ x ∈ l, 0 ≤ x ∧ x ≤ 65535)
    (h' : At .u16 w ma m) (hl' : m.length ≤ maxLen) (hb' : ∀ x ∈ m, 0 ≤ x ∧ x ≤ 65535) :
    Calls Tryd.prog 9 #[.int .u16 n, .slice la l.length lc, .slice ma m.length mc] w fun e w' => e = .returned (.bool true) ∧ Ext w w' := by
  have HT := Lib.hid hT; have H := Lib.hid h; have HB := Lib.hid hb; have HL := Lib.hid hl; have M := Lib.hid h'; have MB := Lib.hid hb'
  obtain ⟨N, hN⟩ : ∃ N : Nat, n % 301 = N := ⟨(n % 301).toNat, by omega⟩
  have HN := Lib.hid hN
  have n0 := hn.1; have n1 := hn.2
  have hN3 : N ≤ 300 := by omega
  have BL := Lib.hid (madeB_len N l)
  unfold maxLen at hl'
  clear hT h hb hl hN h' hb'
  generalize hbs : madeB N l = bs at *
  have HBS := Lib.hid hbs
  clear hbs
  go_enter Tryd.func9, Tryd.ntmps9
  go_wp2_with fail
  refine (law04_made n l N HN.out n0 H.out HL.out HB.out n1).mono ?_
  rw [HBS.out]
  rintro e w1 ⟨b, g, a, cap, rfl, hr, ha, _, _, _, _, x1⟩
  have R := Lib.hid hr; have QA := Lib.hid ha; have X := Lib.hid x1
  rw [BL.out]
  clear hr x1 ha
  go_wp2_with fail
  refine (row_Copy bs R.out).mono ?_
  rintro e w2 ⟨b2, g2, rfl, hr2, k1, k2, x2⟩
  have R2 := Lib.hid hr2; have X2 := Lib.hid x2
  rw [BL.out] at k2
  clear hr2 x2
  go_wp2_with fail
  go_loopw [10] (fun i wr => ∃ (k : Nat) (bk : List Bool), k ≤ m.length ∧ k ≤ 300 ∧ i = .int .i64 k ∧ bk.length = N ∧ Hid (RowAt wr b2 g2 bk) ∧ Hid (Ext w1 wr)) (fun i _ => 300 - (intOf i).toNat)
  case atStart => exact ⟨0, bs, Nat.zero_le _, Nat.zero_le _, rfl, BL.out, R2, X2⟩
  case round =>
    obtain ⟨k, bk, hk, hk3, rfl, hkl, HR, HX⟩ := hrel
    have HKL := Lib.hid hkl
    clear hkl
    rcases (show (k < m.length ∧ k < 300) ∨ (k < m.length ∧ k = 300) ∨ k = m.length by omega) with ⟨hlt, h300⟩ | ⟨hlt, rfl⟩ | rfl
    · obtain ⟨x, o, rfl, hc⟩ := M.out.pos (by omega)
      have z1 := HX.out.cell (X.out.cell (hc k hlt))
      have xb := MB.out _ (nth_mem hlt)
      clear hc
      have x0 := xb.1; have x1 := xb.2
      clear xb
      generalize nth m k = y at *
      go_wp2_with fail
      refine (row_Set_any bk HR.out).mono ?_
      rintro e w3 ⟨q, bk', rfl, hl3, hr3, hc3⟩
      have HR3 := Lib.hid hr3
      have HX3 := Lib.hid (hc3.over HX.out fun k' ⟨hp, he⟩ => by
        rw [he]; exact k2 (by rw [← HKL.out]; exact hp))
      have HL3 := Lib.hid (hl3.trans HKL.out)
      clear hr3 hc3 z1 hl3
      go_wp2_with fail
      go_roundw
      case rel => exact ⟨k + 1, bk', by omega, by omega, by go_num, HL3.out, HR3, HX3⟩
      case measure => simp [intOf]; omega
    all_goals
      go_wp2_with fail
      refine (row_Words bs (R.out.ext HX.out)).mono ?_
      rintro e w3 ⟨a3, c3, he, n3, x3⟩
      have WL := wds_len bs
      rw [BL.out] at WL
      rw [WL] at he
      have hL5 : wlen N ≤ 5 := by unfold wlen; omega
      generalize wlen N = L at *
      subst he
      have HW0 := Lib.hid n3.row
      have HO0 : Hid (0 < L → ∃ g3, a3 = some ⟨g3, 0, none⟩ ∧ w1.heap.size ≤ g3 ∧ ∀ o, w3.frozen? ⟨g3, o, none⟩ = false) := Lib.hid (fun hp => by
        obtain ⟨g3, h1, h2, _, h4⟩ := n3.own (by rw [WL]; exact hp)
        exact ⟨g3, h1, Nat.le_trans HX.out.size h2, h4⟩)
      have HE0 := Lib.hid (HX.out.trans x3)
      have HWL := Lib.hid WL
      clear n3 x3 WL
      go_wp2_with fail
      go_loopw [12] (fun i wq => ∃ (k : Nat) (ws : List Int), k ≤ L ∧ i = .int .i64 k ∧ ws.length = L ∧ Hid (At .u64 wq a3 ws) ∧ Hid (0 < L → ∃ g3, a3 = some ⟨g3, 0, none⟩ ∧ w1.heap.size ≤ g3 ∧ ∀ o, wq.frozen? ⟨g3, o, none⟩ = false) ∧ Hid (Ext w1 wq)) (fun i _ => L - (intOf i).toNat)
      case atStart => exact ⟨0, wds bs, Nat.zero_le _, rfl, HWL.out, HW0, HO0, HE0⟩
      case round =>
        obtain ⟨k2, ws, hk2, rfl, hwl, HW, HO, HE⟩ := hrel
        by_cases hlt2 : k2 < L
        · obtain ⟨g3, rfl, hg3, hfz⟩ := HO.out (by omega)
          have HF := Lib.hid hfz
          have HG := Lib.hid hg3
          obtain ⟨_, _, e0, hc⟩ := HW.out k2 (by omega)
          cases e0
          rw [Nat.zero_add] at hc
          have fz := hfz k2
          have hkw : k2 < ws.length := by omega
          generalize nth ws k2 = y at *
          clear hfz
          go_wp2_with fail
          go_roundw
          case rel => exact ⟨k2 + 1, ws.set k2 _, by omega, by go_num, by rw [List.length_set]; exact hwl, Lib.hid (HW.out.set hkw _), Lib.hid (fun _ => ⟨g3, rfl, HG.out, fun o => by simpa using HF.out o⟩), Lib.hid (((Chg.refl (fun k => k = g3) _).setCell (.inl rfl) _).over HE.out fun k' e => by rw [e]; exact HG.out)⟩
          case measure => simp [intOf]; omega
        · obtain rfl : k2 = L := by omega
          clear HW HO HW0 HO0 HE0
          go_wp2_with fail
          refine (row_Next_no (.inl ⟨rfl, rfl⟩)).mono ?_
          rintro e w5 ⟨rfl, x5⟩
          have NZ := Lib.hid (none_of x5)
          have XX := Lib.hid ((HE.out.alloc _).trans x5)
          clear x5
          go_wp2_with fail
          refine (row_Next_no NZ.out).mono ?_
          rintro e w6 ⟨rfl, x6⟩
          replace NZ := Lib.hid (NZ.out.ext x6)
          replace XX := Lib.hid (XX.out.trans x6)
          clear x6
          go_wp2_with fail
          refine (row_Clear_no (.inl ⟨rfl, rfl⟩)).mono ?_
          rintro e w7 ⟨⟨v, rfl⟩, rfl⟩
          go_wp2_with fail
          refine (row_Clear_no NZ.out).mono ?_
          rintro e w8 ⟨⟨v, rfl⟩, rfl⟩
          go_wp2_with fail
          refine (law04_sameN bs BL.out (R.out.ext XX.out) (QA.out.ext XX.out)).mono ?_
          rintro e w9 ⟨rfl, x9⟩
          replace NZ := Lib.hid (NZ.out.ext x9)
          replace XX := Lib.hid (XX.out.trans x9)
          clear x9
          go_wp2_with fail
          refine (row_Set_no (.inl ⟨rfl, rfl⟩)).mono ?_
          rintro e w1000 ⟨rfl, rfl⟩
          go_wp2_with fail
          refine (row_Set_no NZ.out).mono ?_
          rintro e w1000 ⟨rfl, rfl⟩
          go_wp2_with fail
          refine (row_Less_no (.inl ⟨rfl, rfl⟩)).mono ?_
          rintro e w1000 ⟨rfl, rfl⟩
          go_wp2_with fail
          refine (row_Len_no (.inl ⟨rfl, rfl⟩)).mono ?_
          rintro e w1000 ⟨rfl, rfl⟩
          go_wp2_with fail
          refine (row_Len_no NZ.out).mono ?_
          rintro e w1000 ⟨rfl, rfl⟩
          go_wp2_with fail
          refine (row_Count_no (.inl ⟨rfl, rfl⟩)).mono ?_
          rintro e w1000 ⟨rfl, rfl⟩
          go_wp2_with fail
          refine (row_Words_no (.inl ⟨rfl, rfl⟩)).mono ?_
          rintro e w1000 ⟨rfl, rfl⟩
          go_wp2_with fail
          refine (row_Get_no (.inl ⟨rfl, rfl⟩)).mono ?_
          rintro e w1000 ⟨rfl, rfl⟩
          go_wp2_with fail
          refine (row_Copy_no (.inl ⟨rfl, rfl⟩)).mono ?_
          rintro e w1000 ⟨rfl, rfl⟩
          go_wp2_with fail
          refine (row_Copy_no NZ.out).mono ?_
          rintro e w1000 ⟨rfl, rfl⟩
          go_wp2_with fail
          refine (law04_awake _ (HT.out.ext (X.out.trans XX.out))).mono ?_
          rintro e wz ⟨rfl, x⟩
          go_wp2_with fail
          go_ret
          exact ⟨rfl, (X.out.trans XX.out).trans x⟩

end Go.Proofs.YtfhnjecnamgpkaaDoor
