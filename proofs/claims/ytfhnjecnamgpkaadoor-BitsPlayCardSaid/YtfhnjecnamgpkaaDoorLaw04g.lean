/-
  The walk of commonagelaw04.BitsPlay.
-/
import Derived.Test.YtfhnjecnamgpkaaDoorLaw04d
namespace Go.Proofs.YtfhnjecnamgpkaaDoor
open Go.RowKit

structure BAct where
  what : Int
  i : Int
  is : Bool
instance : Inhabited BAct := ⟨⟨0, 0, false⟩⟩
def bActnth (l : List BAct) (i : Nat) : BAct := l.getD i default
def BAct.Ok (t : BAct) : Prop := (0 ≤ t.what ∧ t.what ≤ 255) ∧ (-9223372036854775808 ≤ t.i ∧ t.i ≤ 9223372036854775807)
def BActAt (w : World) (a : Option Addr) (l : List BAct) : Prop := ∀ i, i < l.length → (bActnth l i).Ok ∧ ∃ b o, a = some ⟨b, o, none⟩ ∧ w.cell? ⟨b, o + i * 3, none⟩ = some (.int .u8 (bActnth l i).what) ∧ w.cell? ⟨b, o + i * 3 + 1, none⟩ = some (.int .i64 (bActnth l i).i) ∧ w.cell? ⟨b, o + i * 3 + 2, none⟩ = some (.bool (bActnth l i).is)
theorem BActAt.ext {w w' : World} {a : Option Addr} {l : List BAct} (h : BActAt w a l) (hx : Ext w w') : BActAt w' a l := fun i hi => by
  obtain ⟨k, b, o, e, c0, c1, c2⟩ := h i hi
  exact ⟨k, b, o, e, hx.cell c0, hx.cell c1, hx.cell c2⟩

theorem row_LenN {b g n : Nat} (bs : List Bool) {w : World} (hn : bs.length = n) (h : RowAt w b g bs) : Calls Tryd.prog 18 #[.pointer (some ⟨b, 0, none⟩)] w fun e w' => e = .returned (.int .i64 n) ∧ w = w' := by
  subst hn; exact row_Len bs h
theorem ref04_NextN {a : Option Addr} {cap n : Nat} {fm : Int} {is : Bool} (bs : List Bool) (p : Int) (q : Bool) {w : World} (hn : bs.length = n) (h : BAt w a bs) (hl : n ≤ 65536) (hx : IsNext bs fm is p q) :
    Calls Tryd.prog 24 #[.slice a n cap, .int .i64 fm, .bool is] w fun e w' => e = .returned (.tuple #[.int .i64 p, .bool q]) ∧ w = w' := by
  subst hn; exact ref04_Next bs p q h hl hx

set_option maxRecDepth 100000 in
set_option maxHeartbeats 16000000 in
theorem law04_BitsPlay {la : Option Addr} {lc : Nat} (n : Int) (l : List BAct) (w : World) (hT : Tab w) (h : BActAt w la l) (hl : l.length ≤ maxLen) :
    Calls Tryd.prog 6 #[.int .i64 n, .slice la l.length lc] w fun e w' => e = .returned (.bool true) ∧ Ext w w' := by
  have HT := Lib.hid hT; have H := Lib.hid h
  unfold maxLen at hl
  clear hT h
  by_cases hn : n < 0 ∨ 65536 < n
  · have HN := Lib.hid hn
    rcases hn with hn | hn
    all_goals
      go_enter Tryd.func6, Tryd.ntmps6
      go_wp2_with fail
      refine (bits_New_no n HN.out).mono ?_
      rintro e w1000 ⟨rfl, rfl⟩
      go_wp2_with fail
      refine (law04_awake _ HT.out).mono ?_
      rintro e wz ⟨rfl, x⟩
      go_wp2_with fail
      go_ret
      exact ⟨rfl, x⟩
  · obtain ⟨N, rfl⟩ : ∃ N : Nat, n = N := ⟨n.toNat, by omega⟩
    have hN : N ≤ 65536 := by omega
    have n0 : decide ((N : Int) < 0) = false := by simp
    have n1 : decide ((65536 : Int) < (N : Int)) = false := by simp; omega
    have HZ := Lib.hid (show (List.replicate N false).length = N by rw [List.length_replicate])
    clear hn
    by_cases h300 : 300 < N
    · go_enter Tryd.func6, Tryd.ntmps6
      go_wp2_with fail
      refine (bits_New N hN).mono ?_
      rintro e w1 ⟨b, g, rfl, hr, b1, g1, x1⟩
      have R := Lib.hid hr; have X1 := Lib.hid x1
      clear hr x1 b1 g1
      go_wp2_with fail
      refine (row_LenN _ HZ.out R.out).mono ?_
      rintro e w1000 ⟨rfl, rfl⟩
      go_wp2_with fail
      refine (row_LenN _ HZ.out R.out).mono ?_
      rintro e w1000 ⟨rfl, rfl⟩
      go_wp2_with fail
      refine (law04_awake _ (HT.out.ext X1.out)).mono ?_
      rintro e wz ⟨rfl, x⟩
      go_wp2_with fail
      go_ret
      exact ⟨rfl, X1.out.trans x⟩
    · have h300' : N ≤ 300 := by omega
      clear h300
      go_enter Tryd.func6, Tryd.ntmps6
      go_wp2_with fail
      refine (bits_New N hN).mono ?_
      rintro e w1 ⟨b, g, rfl, hr, b1, g1, x1⟩
      have R := Lib.hid hr; have X1 := Lib.hid x1
      have GL : Hid (0 < N → g < w1.heap.size) := Lib.hid fun hp => hr.glt (by rw [List.length_replicate]; exact hp)
      clear hr x1
      go_wp2_with fail
      refine (row_LenN _ HZ.out R.out).mono ?_
      rintro e w1000 ⟨rfl, rfl⟩
      go_wp2_with fail
      refine (ref04_New N hN).mono ?_
      rintro e w2 ⟨a, cap, rfl, nb, fa, x2⟩
      have R2 := Lib.hid (R.out.ext x2); have A2 := Lib.hid nb.row; have FA : Hid (Far w1.heap.size a) := Lib.hid fa
      have X := Lib.hid (X1.out.trans x2); have XL := Lib.hid x2.size
      rw [HZ.out]
      clear nb x2 R fa
      go_wp2_with fail
      go_loopw [7, 8] (fun qv i wr => ∃ (k : Nat) (bs : List Bool) (aq : Option Addr) (cq : Nat), k ≤ l.length ∧ k ≤ 100 ∧ i = .int .i64 k ∧ qv = .slice aq N cq ∧ Hid (bs.length = N) ∧ Hid (RowAt wr b g bs) ∧ Hid (BAt wr aq bs) ∧ Hid (Far w1.heap.size aq) ∧ Hid (Ext w wr) ∧ Hid (w1.heap.size ≤ wr.heap.size)) (fun _ i _ => 100 - (intOf i).toNat)
      case atStart => exact ⟨0, _, a, cap, Nat.zero_le _, Nat.zero_le _, rfl, rfl, HZ, R2, A2, FA, X, XL⟩
      case round =>
        clear HZ R2 A2 FA X XL
        obtain ⟨k, bs, aq, cq, hk, hk1, rfl, rfl, HL, HR, HA, HF, HX, HS⟩ := hrel
        rcases (show (k < l.length ∧ k < 100) ∨ (k < l.length ∧ k = 100) ∨ k = l.length by omega) with ⟨hlt, h100⟩ | ⟨hlt, rfl⟩ | rfl
        · obtain ⟨ok, x, o, rfl, c0, c1, c2⟩ := H.out k hlt
          replace c0 := HX.out.cell c0; replace c1 := HX.out.cell c1; replace c2 := HX.out.cell c2
          obtain ⟨ok1, ok2⟩ := ok
          generalize bActnth l k = y at *
          obtain ⟨what, i, is⟩ := y
          dsimp only at ok1 ok2 c0 c1 c2
          have i0 := ok2.1; have i1 := ok2.2; have w0 := ok1.1; have w9 := ok1.2
          have t100 : decide ((k : Int) < 100) = true := by simp; omega
          obtain ⟨wo, hwo⟩ : ∃ wo : World, wo = wr := ⟨_, rfl⟩
          subst hwo
          have XN := Lib.hid ((Ext.refl wo).alloc (.cells #[.int .u8 what, .int .i64 i, .bool is] 46))
          have B0 := Lib.hid (show (wo.alloc (.cells #[.int .u8 what, .int .i64 i, .bool is] 46)).cell? ⟨wo.heap.size, 1, none⟩ = some (.int .i64 i) from cell_newN _ _ _ 1)
          have B1 := Lib.hid (show (wo.alloc (.cells #[.int .u8 what, .int .i64 i, .bool is] 46)).cell? ⟨wo.heap.size, 2, none⟩ = some (.bool is) from cell_newN _ _ _ 2)
          have HR1 := Lib.hid (HR.out.ext XN.out); have HA1 := Lib.hid (HA.out.ext XN.out); have HX1 := Lib.hid (HX.out.trans XN.out)
          have HS1 := Lib.hid (Nat.le_trans HS.out XN.out.size)
          clear ok1 ok2
          obtain ⟨rr, hrr⟩ : ∃ rr, what % 4 = rr := ⟨_, rfl⟩
          rcases (show rr = 0 ∨ rr = 1 ∨ rr = 2 ∨ rr = 3 by omega) with rfl | rfl | rfl | rfl
          case inr.inr.inl =>
            obtain ⟨p, q, hpq⟩ := next_exists bs i is
            have PQ := Lib.hid hpq
            clear hpq
            go_wp2_with fail
            refine (row_Next bs p q HR1.out (HT.out.ext HX1.out) PQ.out).mono ?_
            rintro e w3 ⟨rfl, x3⟩
            have HR3 := Lib.hid (HR1.out.ext x3); have HA3 := Lib.hid (HA1.out.ext x3); have HX3 := Lib.hid (HX1.out.trans x3); have HS3 := Lib.hid (Nat.le_trans HS1.out x3.size)
            have b0 := x3.cell B0.out; have b1 := x3.cell B1.out
            clear x3
            go_wp2_with fail
            refine (ref04_NextN bs p q HL.out HA3.out hN PQ.out).mono ?_
            rintro e w4 ⟨rfl, rfl⟩
            go_wp2_with fail
            go_roundw
            case rel => exact ⟨k + 1, bs, aq, cq, by omega, by omega, by go_num, rfl, HL, HR3, HA3, HF, HX3, HS3⟩
            case measure => simp [intOf]; omega
          case inr.inr.inr =>
            by_cases hi0 : i = 0
            · subst hi0
              go_wp2_with fail
              refine (row_Clear bs HR1.out).mono ?_
              rintro e w3 ⟨⟨v, rfl⟩, hr3, hc3⟩
              rw [HL.out] at hr3
              have HR3 := Lib.hid hr3
              have HX3 := Lib.hid (hc3.over HX1.out fun k' ⟨hp, he⟩ => by rw [he]; exact g1 (by rw [← HL.out]; exact hp))
              have HS3 := Lib.hid (Nat.le_trans HS1.out hc3.size)
              clear hr3 hc3
              go_wp2_with fail
              refine (ref04_New N hN).mono ?_
              rintro e w4 ⟨a4, c4, rfl, nb, fa, x4⟩
              have HR4 := Lib.hid (HR3.out.ext x4); have HA4 := Lib.hid nb.row; have HF4 : Hid (Far w1.heap.size a4) := Lib.hid (fa.mono HS3.out)
              have HX4 := Lib.hid (HX3.out.trans x4); have HS4 := Lib.hid (Nat.le_trans HS3.out x4.size)
              have HL4 := Lib.hid (show (List.replicate N false).length = N by rw [List.length_replicate])
              rw [HL4.out]
              clear nb fa x4
              go_wp2_with fail
              go_roundw
              case rel => exact ⟨k + 1, _, a4, c4, by omega, by omega, by go_num, rfl, HL4, HR4, HA4, HF4, HX4, HS4⟩
              case measure => simp [intOf]; omega
            · have ti : (i == 0) = false := by simpa using hi0
              go_wp2_with fail
              go_roundw
              case rel => exact ⟨k + 1, bs, aq, cq, by omega, by omega, by go_num, rfl, HL, HR1, HA1, HF, HX1, HS1⟩
              case measure => simp [intOf]; omega
          all_goals
            obtain ⟨bs', q, hbs⟩ : ∃ bs' q, bsetR bs i is = (bs', q) := ⟨_, _, rfl⟩
            have HB := Lib.hid hbs
            have HL2 := Lib.hid (show bs'.length = N by have := bsetR_len bs i is; rw [hbs] at this; exact this.trans HL.out)
            clear hbs
            go_wp2_with fail
            refine (ref04_SetN bs bs' q HL.out HA1.out hN HB.out).mono ?_
            rintro e w3 ⟨a3, c3, rfl, ha3, hf3, x3⟩
            rw [HL2.out]
            have HR3 := Lib.hid (HR1.out.ext x3); have HA3 := Lib.hid ha3; have HF3 := Lib.hid (hf3 _ HS1.out HF.out); have HX3 := Lib.hid (HX1.out.trans x3); have HS3 := Lib.hid (Nat.le_trans HS1.out x3.size)
            have b0 := x3.cell B0.out; have b1 := x3.cell B1.out
            clear ha3 hf3 x3
            go_wp2_with fail
            refine (row_Set bs bs' q HR3.out HB.out).mono ?_
            rintro e w4 ⟨rfl, hr4, hc4⟩
            have HR4 := Lib.hid hr4
            have HA4 := Lib.hid (HA3.out.chg hc4 fun x' o' e ⟨hp, he⟩ => by
              have h1 := HF3.out x' o' e
              have h2 := GL.out (by rw [← HL.out]; exact hp)
              omega)
            have HX4 := Lib.hid (hc4.over HX3.out fun k' ⟨hp, he⟩ => by rw [he]; exact g1 (by rw [← HL.out]; exact hp))
            have HS4 := Lib.hid (Nat.le_trans HS3.out hc4.size)
            clear hr4 hc4
            go_wp2_with fail
            go_roundw
            case rel => exact ⟨k + 1, bs', a3, c3, by omega, by omega, by go_num, rfl, HL2, HR4, HA4, HF3, HX4, HS4⟩
            case measure => simp [intOf]; omega
        all_goals
          go_wp2_with fail
          refine (law04_sameN bs HL.out HR.out HA.out).mono ?_
          rintro e w5 ⟨rfl, x5⟩
          have HX5 := Lib.hid (HX.out.trans x5)
          clear x5
          go_wp2_with fail
          refine (law04_awake _ (HT.out.ext HX5.out)).mono ?_
          rintro e wz ⟨rfl, x⟩
          go_wp2_with fail
          go_ret
          exact ⟨rfl, HX5.out.trans x⟩

end Go.Proofs.YtfhnjecnamgpkaaDoor
