/-
  The walk of commonagelaw04.BitsLess.
-/
import Derived.Test.YtfhnjecnamgpkaaDoorLaw04d
namespace Go.Proofs.YtfhnjecnamgpkaaDoor
open Go.RowKit

theorem ref04_LessN {a b : Option Addr} {ca cb n n' : Nat} (rs bs out : List Bool) (q : Int) {w : World} (hn : rs.length = n) (hn' : bs.length = n') (h : BAt w a rs) (h' : BAt w b bs) (hl : n ≤ 65536) (hl' : n' ≤ 65536) (hr : lessR rs bs = (out, q)) :
    Calls Tryd.prog 15 #[.slice a n ca, .slice b n' cb] w (SetBits a out q w) := by
  subst hn hn'; exact ref04_Less rs bs out q h h' hl hl' hr
theorem lessR_same {rs bs : List Bool} (h : rs.length = bs.length) : lessR rs bs = (bless rs bs, 0) := by unfold lessR; rw [if_pos h]

set_option maxRecDepth 100000 in
set_option maxHeartbeats 8000000 in
theorem law04_BitsLess {la ma : Option Addr} {lc mc : Nat} (n : Int) (l m : List Int) (w : World) (hT : Tab w) (hn : 0 ≤ n ∧ n ≤ 65535) (h : At .u16 w la l) (hl : l.length ≤ maxLen) (hb : ∀ x ∈ l, 0 ≤ x ∧ x ≤ 65535)
    (h' : At .u16 w ma m) (hl' : m.length ≤ maxLen) (hb' : ∀ x ∈ m, 0 ≤ x ∧ x ≤ 65535) :
    Calls Tryd.prog 3 #[.int .u16 n, .slice la l.length lc, .slice ma m.length mc] w fun e w' => e = .returned (.bool true) ∧ Ext w w' := by
  have HT := Lib.hid hT; have H := Lib.hid h; have HB := Lib.hid hb; have HL := Lib.hid hl; have M := Lib.hid h'; have MB := Lib.hid hb'; have ML := Lib.hid hl'
  obtain ⟨N, hN⟩ : ∃ N : Nat, n % 301 = N := ⟨(n % 301).toNat, by omega⟩
  have HN := Lib.hid hN
  have n0 := hn.1; have n1 := hn.2
  have hN3 : N ≤ 300 := by omega
  obtain ⟨n2, hn2⟩ : ∃ n2, IntKind.u16.wrap (n + 1) = n2 := ⟨_, rfl⟩
  have hn20 : 0 ≤ n2 ∧ n2 ≤ 65535 := by rw [← hn2, IntKind.wrap_u16]; omega
  obtain ⟨N2, hN2⟩ : ∃ N : Nat, n2 % 301 = N := ⟨(n2 % 301).toNat, by omega⟩
  have HN2 := Lib.hid hN2
  have HW2 := Lib.hid hn2
  have n20 := hn20.1; have n21 := hn20.2
  have BL := Lib.hid (madeB_len N l)
  have CL := Lib.hid (madeB_len N m)
  have EL := Lib.hid (madeB_len N2 m)
  clear hT h hb hl hN h' hb' hl' hN2 hn20 hn2
  generalize hbs : madeB N l = bs at *
  generalize hcs : madeB N m = cs at *
  generalize hes : madeB N2 m = es at *
  have HBS := Lib.hid hbs; have HCS := Lib.hid hcs; have HES := Lib.hid hes
  have DL := Lib.hid (show (bless bs cs).length = N by rw [bless_len, BL.out])
  have DN := Lib.hid (bless_nth bs cs)
  have LR := Lib.hid (lessR_same (rs := bs) (bs := cs) (by rw [BL.out, CL.out]))
  clear hbs hcs hes
  generalize bless bs cs = ds at *
  go_enter Tryd.func3, Tryd.ntmps3
  go_wp2_with fail
  refine (law04_made n l N HN.out n0 H.out HL.out HB.out n1).mono ?_
  rw [HBS.out]
  rintro e w1 ⟨b, g, a, cap, rfl, hr, ha, bb, gg, _, ag, x1⟩
  have R := Lib.hid hr; have QA := Lib.hid ha; have X := Lib.hid x1
  have AG := Lib.hid ag
  have GG := Lib.hid gg
  have GL : Hid (0 < N → g < w1.heap.size) := Lib.hid (fun hp => R.out.glt (by rw [BL.out]; exact hp))
  rw [BL.out]
  clear hr x1 ha ag gg
  go_wp2_with fail
  refine (law04_made n m N HN.out n0 (M.out.ext X.out) ML.out MB.out n1).mono ?_
  rw [HCS.out]
  rintro e w2 ⟨b', g', a', cap', rfl, hr2, ha2, bb2, gg2, fa2, _, x2⟩
  have O := Lib.hid hr2; have PA := Lib.hid ha2
  have GG2 := Lib.hid gg2; have FA2 := Lib.hid fa2
  have R2 := Lib.hid (R.out.ext x2); have QA2 := Lib.hid (QA.out.ext x2); have X2 := Lib.hid (X.out.trans x2)
  rw [CL.out]
  clear hr2 ha2 gg2 fa2 x2
  go_wp2_with fail
  refine (row_Less bs cs R2.out O.out (by rw [BL.out, CL.out]) (fun hp => by
    rw [BL.out] at hp
    have := GL.out hp
    have := GG2.out (by rw [CL.out]; exact hp)
    omega)).mono ?_
  rintro e w3 ⟨rfl, hr3, hc3⟩
  have e3 : bless bs cs = ds := by have := (lessR_same (rs := bs) (bs := cs) (by rw [BL.out, CL.out])).symm.trans LR.out; simpa using this
  rw [e3] at hr3
  have R3 := Lib.hid hr3
  have O3 := Lib.hid (O.out.beside hc3 (fun hp => by
    rw [BL.out] at hp
    have := GL.out hp
    omega) (fun hp _ => by
    rw [BL.out] at hp
    have := GL.out hp
    have := GG2.out (by rw [CL.out]; exact hp)
    omega))
  have QA3 := Lib.hid (QA2.out.chg hc3 fun x o e ⟨hp, he⟩ => AG.out hp x o e he)
  have PA3 := Lib.hid (PA.out.chg hc3 fun x o e ⟨hp, he⟩ => by
    rw [BL.out] at hp
    have := GL.out hp
    have := FA2.out x o e
    omega)
  have X3 := Lib.hid (hc3.over X2.out fun k ⟨hp, he⟩ => by rw [he]; exact GG.out hp)
  clear hr3 hc3 e3
  go_wp2_with fail
  refine (ref04_LessN bs cs ds 0 BL.out CL.out QA3.out PA3.out (by omega) (by omega) LR.out).mono ?_
  rintro e w4 ⟨a4, c4, rfl, ha4, _, x4⟩
  rw [DL.out]
  have D4 := Lib.hid ha4
  have R4 := Lib.hid (R3.out.ext x4); have O4 := Lib.hid (O3.out.ext x4); have QA4 := Lib.hid (QA3.out.ext x4); have PA4 := Lib.hid (PA3.out.ext x4); have X4 := Lib.hid (X3.out.trans x4)
  clear ha4 x4
  go_wp2_with fail
  refine (law04_sameN ds DL.out R4.out D4.out).mono ?_
  rintro e w5 ⟨rfl, x5⟩
  go_wp2_with fail
  refine (law04_sameN cs CL.out (O4.out.ext x5) (PA4.out.ext x5)).mono ?_
  rintro e w6 ⟨rfl, x6⟩
  have R6 := Lib.hid ((R4.out.ext x5).ext x6); have O6 := Lib.hid ((O4.out.ext x5).ext x6); have QA6 := Lib.hid ((QA4.out.ext x5).ext x6); have PA6 := Lib.hid ((PA4.out.ext x5).ext x6); have X6 := Lib.hid ((X4.out.trans x5).trans x6)
  clear x5 x6 D4
  go_wp2_with fail
  go_loopw [14] (fun i wr => ∃ k : Nat, k ≤ N ∧ i = .int .i64 k ∧ Hid (w6 = wr)) (fun i _ => N - (intOf i).toNat)
  case atStart => exact ⟨0, Nat.zero_le _, rfl, Lib.hid rfl⟩
  case round =>
    obtain ⟨k, hk, rfl, HE⟩ := hrel
    obtain rfl := HE.out
    by_cases hlt : k < N
    · obtain ⟨qx, qo, rfl, hq⟩ := QA6.out.pos (by rw [BL.out]; omega)
      obtain ⟨px, po, rfl, hp⟩ := PA6.out.pos (by rw [CL.out]; omega)
      have z1 := hq k (by rw [BL.out]; exact hlt)
      have z2 := hp k (by rw [CL.out]; exact hlt)
      have G1 := Lib.hid ((bget_nat ds k).trans (DN.out k))
      have G2 := Lib.hid (bget_nat cs k)
      clear hq hp
      generalize bnth bs k = x at *
      generalize bnth cs k = y at *
      cases x <;> cases y
      all_goals
        go_wp2_with fail
        refine (row_Get ds _ R6.out G1.out).mono ?_
        rintro e wv ⟨rfl, rfl⟩
        go_wp2_with fail
      · go_roundw
        case rel => exact ⟨k + 1, by omega, by go_num, Lib.hid trivial⟩
        case measure => simp [intOf]; omega
      · go_roundw
        case rel => exact ⟨k + 1, by omega, by go_num, Lib.hid trivial⟩
        case measure => simp [intOf]; omega
      · refine (row_Get cs _ O6.out G2.out).mono ?_
        rintro e wv ⟨rfl, rfl⟩
        go_wp2_with fail
        refine (row_Get ds _ R6.out G1.out).mono ?_
        rintro e wv ⟨rfl, rfl⟩
        go_wp2_with fail
        go_roundw
        case rel => exact ⟨k + 1, by omega, by go_num, Lib.hid trivial⟩
        case measure => simp [intOf]; omega
      · go_roundw
        case rel => exact ⟨k + 1, by omega, by go_num, Lib.hid trivial⟩
        case measure => simp [intOf]; omega
    · obtain rfl : k = N := by omega
      have hw2 := HW2.out
      go_wp2_with fail
      clear hw2
      refine (law04_made n2 m N2 HN2.out n20 (M.out.ext X6.out) ML.out MB.out n21).mono ?_
      rw [HES.out]
      rintro e w7 ⟨b7, g7, a7, cap7, rfl, hr7, _, _, _, _, _, x7⟩
      have S := Lib.hid hr7
      have R7 := Lib.hid (R6.out.ext x7); have X7 := Lib.hid (X6.out.trans x7)
      clear hr7 x7
      go_wp2_with fail
      refine (row_Len es S.out).mono ?_
      rintro e wv ⟨rfl, rfl⟩
      go_wp2_with fail
      refine (row_Len ds R7.out).mono ?_
      rintro e wv ⟨rfl, rfl⟩
      rw [EL.out, DL.out]
      by_cases hE : N2 = k
      · subst hE
        go_wp2_with fail
        refine (row_Less_arg R7.out.isNone (.inl ⟨rfl, rfl⟩)).mono ?_
        rintro e w8 ⟨rfl, x8⟩
        go_wp2_with fail
        refine (law04_awake _ (HT.out.ext (X7.out.trans x8))).mono ?_
        rintro e wz ⟨rfl, x⟩
        go_wp2_with fail
        go_ret
        exact ⟨rfl, (X7.out.trans x8).trans x⟩
      · have t1 : ((N2 : Int) == (k : Int)) = false := by simp; omega
        have t2 : (N2 == k) = false := by simpa using hE
        have t3 : ((N2 : Int) != (k : Int)) = true := by simp; omega
        go_wp2_with fail
        refine (row_Less_len ds es R7.out S.out (by rw [EL.out, DL.out]; omega)).mono ?_
        rintro e w8 ⟨rfl, x8⟩
        go_wp2_with fail
        refine (row_Less_arg (R7.out.ext x8).isNone (.inl ⟨rfl, rfl⟩)).mono ?_
        rintro e w9 ⟨rfl, x9⟩
        go_wp2_with fail
        refine (law04_awake _ (HT.out.ext ((X7.out.trans x8).trans x9))).mono ?_
        rintro e wz ⟨rfl, x⟩
        go_wp2_with fail
        go_ret
        exact ⟨rfl, ((X7.out.trans x8).trans x9).trans x⟩

end Go.Proofs.YtfhnjecnamgpkaaDoor
