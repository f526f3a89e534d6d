/-
  commonagelaw04: same, made, awake.
-/
import Derived.Test.YtfhnjecnamgpkaaDoorRef04c
namespace Go.Proofs.YtfhnjecnamgpkaaDoor
open Go.RowKit

set_option maxRecDepth 100000 in
set_option maxHeartbeats 4000000 in
theorem law04_same {b g : Nat} {a : Option Addr} {cap : Nat} (bs : List Bool) {w : World} (h : RowAt w b g bs) (h' : BAt w a bs) :
    Calls Tryd.prog 16 #[.pointer (some ⟨b, 0, none⟩), .slice a bs.length cap] w fun e w' => e = .returned (.bool true) ∧ Ext w w' := by
  have h65 := h.most
  have H := Lib.hid h; have H' := Lib.hid h'
  have hm : (wds bs).length ≤ maxLen := by rw [wds_len]; unfold wlen maxLen; omega
  have HM := Lib.hid hm
  obtain ⟨c, hc⟩ : ∃ c, bcnt bs bs.length = c := ⟨_, rfl⟩
  have HC := Lib.hid hc
  clear h h' hm hc
  go_enter Tryd.func16, Tryd.ntmps16
  go_wp2_with fail
  refine (row_Len bs H.out).mono ?_
  rintro e w1000 ⟨rfl, rfl⟩
  go_wp2_with fail
  refine (row_Count bs c H.out HC.out).mono ?_
  rintro e w1000 ⟨rfl, rfl⟩
  go_wp2_with fail
  refine (ref04_Count bs c H'.out h65 HC.out).mono ?_
  rintro e w1000 ⟨rfl, rfl⟩
  go_wp2_with fail
  refine (row_Words bs H.out).mono ?_
  rintro e w1 ⟨a1, c1, rfl, n1, x1⟩
  have N1 := Lib.hid n1.row
  clear n1
  go_wp2_with fail
  refine (ref04_Words bs (H'.out.ext x1) h65).mono ?_
  rintro e w2 ⟨a2, c2, rfl, n2, x2⟩
  have N2 := Lib.hid n2.row
  replace N1 := Lib.hid (N1.out.ext x2)
  have X := Lib.hid (x1.trans x2)
  clear n2 x1 x2
  go_wp2_with fail
  refine (ref03_Same (wds bs) (wds bs) true (by simp) N1.out N2.out HM.out HM.out).mono ?_
  rintro e w3 ⟨rfl, x3⟩
  replace X := Lib.hid (X.out.trans x3)
  clear x3 N1 N2
  go_wp2_with fail
  go_loopw [5] (fun i wr => ∃ k : Nat, k ≤ bs.length + 2 ∧ i = .int .i64 ((k : Int) - 1) ∧ Ext w wr) (fun i _ => bs.length + 2 - (intOf i + 1).toNat)
  case atStart => exact ⟨0, Nat.zero_le _, rfl, X.out⟩
  case round =>
    obtain ⟨k, hk, rfl, hx⟩ := hrel
    by_cases hlt : k < bs.length + 2
    · obtain ⟨v, hv⟩ : ∃ v, bget bs ((k : Int) - 1) = v := ⟨_, rfl⟩
      have HV := Lib.hid hv
      have t1 : decide ((k : Int) - 1 ≤ bs.length) = true := by simp; omega
      clear hv
      go_wp2_with fail
      refine (row_Get bs v (H.out.ext hx) HV.out).mono ?_
      rintro e w1000 ⟨rfl, rfl⟩
      go_wp2_with fail
      refine (ref04_Get bs v (H'.out.ext hx) h65 HV.out).mono ?_
      rintro e w1000 ⟨rfl, rfl⟩
      go_wp2_with fail
      go_roundw
      case rel => exact ⟨k + 1, by omega, by go_num, hx⟩
      case measure => simp [intOf]; omega
    · obtain rfl : k = bs.length + 2 := by omega
      have t1 : decide ((((bs.length + 2 : Nat) : Int)) - 1 ≤ bs.length) = false := by simp; omega
      go_wp2_with fail
      go_ret
      exact ⟨rfl, hx⟩

/-! ### made -/
def setAll (bs : List Bool) : List Int → List Bool
  | [] => bs
  | x :: r => setAll (bsetR bs (x % 301) true).1 r
theorem bsetR_len (bs : List Bool) (i : Int) (is : Bool) : (bsetR bs i is).1.length = bs.length := by
  unfold bsetR; split
  · simp
  · rfl
theorem setAll_len : ∀ (l : List Int) (bs : List Bool), (setAll bs l).length = bs.length
  | [], _ => rfl
  | x :: r, bs => by unfold setAll; rw [setAll_len r, bsetR_len]
theorem setAll_snoc : ∀ (l : List Int) (x : Int) (bs : List Bool), setAll bs (l ++ [x]) = (bsetR (setAll bs l) (x % 301) true).1
  | [], _, _ => rfl
  | y :: r, x, bs => by
    show setAll (bsetR bs (y % 301) true).1 (r ++ [x]) = _
    rw [setAll_snoc r x]; rfl
def madeB (n : Nat) (l : List Int) : List Bool := setAll (List.replicate n false) (l.take 300)
theorem madeB_len (n : Nat) (l : List Int) : (madeB n l).length = n := by unfold madeB; rw [setAll_len, List.length_replicate]
theorem take_nth (l : List Int) (k : Nat) (h : k < l.length) : l.take (k + 1) = l.take k ++ [nth l k] := by
  rw [List.take_succ_eq_append_getElem h]; simp [nth, List.getD, h]

/-- What made hands back: a row of its own and the document's, of the same bits. -/
def MadePost (bs : List Bool) (w : World) (e : Ending) (w' : World) : Prop :=
  ∃ b g a cap, e = .returned (.tuple #[.pointer (some ⟨b, 0, none⟩), .slice a bs.length cap]) ∧ RowAt w' b g bs ∧ BAt w' a bs ∧ w.heap.size ≤ b ∧ (0 < bs.length → w.heap.size ≤ g) ∧ Far (w.heap.size) a ∧ (0 < bs.length → ∀ x o, a = some ⟨x, o, none⟩ → x ≠ g) ∧ Ext w w'

theorem ref04_SetN {a : Option Addr} {cap n : Nat} {i : Int} {is : Bool} (bs bs' : List Bool) (q : Int) {w : World} (hn : bs.length = n) (h : BAt w a bs) (hl : n ≤ 65536) (hr : bsetR bs i is = (bs', q)) :
    Calls Tryd.prog 26 #[.slice a n cap, .int .i64 i, .bool is] w (SetBits a bs' q w) := by
  subst hn; exact ref04_Set bs bs' q h hl hr

set_option maxRecDepth 100000 in
set_option maxHeartbeats 4000000 in
theorem law04_made {la : Option Addr} {lc : Nat} (n : Int) (l : List Int) (N : Nat) {w : World} (hn : n % 301 = N) (hn0 : 0 ≤ n) (h : At .u16 w la l) (hl : l.length ≤ maxLen) (hb : ∀ x ∈ l, 0 ≤ x ∧ x ≤ 65535) (hn1 : n ≤ 65535) :
    Calls Tryd.prog 13 #[.int .u16 n, .slice la l.length lc] w (MadePost (madeB N l) w) := by
  have hN : N ≤ 300 := by omega
  have H := Lib.hid h; have HB := Lib.hid hb
  unfold maxLen at hl
  clear h hb
  go_enter Tryd.func13, Tryd.ntmps13
  go_wp2_with fail
  refine (bits_New N (by omega)).mono ?_
  rintro e w1 ⟨b, g, rfl, hr, b1, g1, x1⟩
  have R := Lib.hid hr
  have hb1 := hr.lt
  clear hr hn
  go_wp2_with fail
  refine (ref04_New N (by omega)).mono ?_
  rintro e w2 ⟨a, cap, rfl, nb, fa, x2⟩
  have R2 := Lib.hid (R.out.ext x2)
  have A2 := Lib.hid nb.row
  have FA : Hid (Far w1.heap.size a) := Lib.hid fa
  have GL : Hid (0 < N → g < w1.heap.size) := Lib.hid (fun hp => R.out.glt (by rw [List.length_replicate]; exact hp))
  have X := Lib.hid (x1.trans x2)
  have XS := Lib.hid x1.size
  have XL := Lib.hid x2.size
  clear nb x1 x2 R fa
  go_wp2_with fail
  go_loopw [9, 10] (fun qv i wr => ∃ (k : Nat) (aq : Option Addr) (cq : Nat), k ≤ l.length ∧ k ≤ 300 ∧ i = .int .i64 k ∧ qv = .slice aq N cq ∧ Hid (RowAt wr b g (setAll (List.replicate N false) (l.take k))) ∧ Hid (BAt wr aq (setAll (List.replicate N false) (l.take k))) ∧ Hid (Far w1.heap.size aq) ∧ Hid (Ext w wr) ∧ Hid (w1.heap.size ≤ wr.heap.size)) (fun _ i _ => 300 - (intOf i).toNat)
  case atStart => exact ⟨0, a, cap, Nat.zero_le _, Nat.zero_le _, rfl, rfl, R2, A2, FA, X, XL⟩
  case round =>
    obtain ⟨k, aq, cq, hk, hk3, rfl, rfl, HR, HA, HF, HX, HZ⟩ := hrel
    have HLn := Lib.hid (show (setAll (List.replicate N false) (l.take k)).length = N by rw [setAll_len, List.length_replicate])
    by_cases hlt : k < l.length
    · by_cases h300 : k < 300
      · obtain ⟨x, o, rfl, hc⟩ := H.out.pos (by omega)
        have z1 := HX.out.cell (hc k hlt)
        have Z0 := Lib.hid (hc k hlt)
        have xb := HB.out _ (nth_mem hlt)
        have SN := Lib.hid (show setAll (List.replicate N false) (l.take (k + 1)) = (bsetR (setAll (List.replicate N false) (l.take k)) (nth l k % 301) true).1 by rw [take_nth l k hlt, setAll_snoc])
        clear hc
        have x0 := xb.1; have x1 := xb.2
        clear xb
        generalize setAll (List.replicate N false) (l.take k) = bk at *
        generalize nth l k = y at *
        obtain ⟨bk', q, hbk⟩ : ∃ bk' q, bsetR bk (y % 301) true = (bk', q) := ⟨_, _, rfl⟩
        have HBK := Lib.hid hbk
        have HL2 := Lib.hid (show bk'.length = N by have := bsetR_len bk (y % 301) true; rw [hbk] at this; exact this.trans HLn.out)
        rw [hbk] at SN
        clear hbk
        go_wp2_with fail
        refine (row_Set bk bk' q HR.out HBK.out).mono ?_
        rintro e w3 ⟨rfl, hr3, hc3⟩
        have HR3 := Lib.hid hr3
        have HA3 := Lib.hid (HA.out.chg hc3 fun x' o' e ⟨hp, he⟩ => by
          have h1 := HF.out x' o' e
          have h2 := GL.out (by rw [← HLn.out]; exact hp)
          omega)
        have HX3 := Lib.hid (hc3.over HX.out fun k' ⟨hp, he⟩ => by
          rw [he]; exact g1 (by rw [← HLn.out]; exact hp))
        have HZ3 := Lib.hid (Nat.le_trans HZ.out hc3.size)
        have z3 := HX3.out.cell Z0.out
        clear hr3 hc3 z1
        go_wp2_with fail
        refine (ref04_SetN bk bk' q HLn.out HA3.out (by omega) HBK.out).mono ?_
        rintro e w4 ⟨a4, c4, rfl, ha4, hf4, x4⟩
        rw [HL2.out]
        have HR4 := Lib.hid (HR3.out.ext x4)
        have HA4 := Lib.hid ha4
        have HF4 := Lib.hid (hf4 _ HZ3.out HF.out)
        have HX4 := Lib.hid (HX3.out.trans x4)
        have HZ4 := Lib.hid (Nat.le_trans HZ3.out x4.size)
        clear ha4 hf4 x4 z3
        go_wp2_with fail
        go_roundw
        case rel => exact ⟨k + 1, a4, c4, by omega, by omega, by go_num, rfl, by rw [SN.out]; exact HR4, by rw [SN.out]; exact HA4, HF4, HX4, HZ4⟩
        case measure => simp [intOf]; omega
      · obtain rfl : k = 300 := by omega
        go_wp2_with fail
        go_ret2
        exact ⟨b, g, aq, cq, by rw [madeB_len]; rfl, HR.out, HA.out, b1, fun hp => g1 (by rw [madeB_len] at hp; exact hp), HF.out.mono XS.out, fun hp x o e => by
          have h1 := HF.out x o e
          have h2 := GL.out (by rw [madeB_len] at hp; exact hp)
          omega, HX.out⟩
    · obtain rfl : k = l.length := by omega
      have eq : l.take l.length = l.take 300 := by rw [List.take_of_length_le (Nat.le_refl _), List.take_of_length_le hk3]
      rw [eq] at HR HA
      go_wp2_with fail
      go_ret2
      exact ⟨b, g, aq, cq, by rw [madeB_len]; rfl, HR.out, HA.out, b1, fun hp => g1 (by rw [madeB_len] at hp; exact hp), HF.out.mono XS.out, fun hp x o e => by
          have h1 := HF.out x o e
          have h2 := GL.out (by rw [madeB_len] at hp; exact hp)
          omega, HX.out⟩

end Go.Proofs.YtfhnjecnamgpkaaDoor
