/-
  The plain law and the walk of commonagelaw04.BitsAgain, for arguments of modest length.
-/
import Derived.Test.YtfhnjecnamgpkaaDoorLaw04d
namespace Go.Proofs.YtfhnjecnamgpkaaDoor
open Go.RowKit

theorem bless_twice (rs bs : List Bool) : bless (bless rs bs) bs = bless rs bs := bext (bless_len _ _) fun i _ => by
  rw [bless_nth, bless_nth]; cases bnth rs i <;> cases bnth bs i <;> rfl
theorem bless_self (bs : List Bool) : bless bs bs = List.replicate bs.length false := bext (by rw [bless_len, List.length_replicate]) fun i _ => by
  rw [bless_nth, bnth_rep0]; cases bnth bs i <;> rfl
theorem bcnt_zeros (n : Nat) : ∀ k, bcnt (List.replicate n false) k = 0
  | 0 => rfl
  | k + 1 => by rw [bcnt_succ, bcnt_zeros n k, bnth_rep0]; rfl
theorem setAll_nth : ∀ (l : List Int) (bs : List Bool) (j : Nat), j < bs.length → bnth (setAll bs l) j = (bnth bs j || l.any fun x => decide (x % 301 = j))
  | [], bs, j, _ => by simp [setAll]
  | x :: r, bs, j, hj => by
    show bnth (setAll (bsetR bs (x % 301) true).1 r) j = _
    rw [setAll_nth r _ j (by rw [bsetR_len]; exact hj), List.any_cons, ← Bool.or_assoc]
    congr 1
    by_cases hx : x % 301 < bs.length
    · obtain ⟨n, hn⟩ : ∃ n : Nat, x % 301 = n := ⟨(x % 301).toNat, by omega⟩
      rw [hn, bsetR_yes (by omega)]
      show bnth (bs.set n true) j = _
      rw [bnth_set (by omega)]
      by_cases e : j = n
      · subst e; simp
      · rw [if_neg e, decide_eq_false (by omega), Bool.or_false]
    · rw [bsetR_no (by omega), decide_eq_false (by omega), Bool.or_false]
theorem madeB_swap (N : Nat) (l m : List Int) (h : l.length + m.length ≤ 300) : madeB N (l ++ m) = madeB N (m ++ l) := by
  unfold madeB
  rw [List.take_of_length_le (by rw [List.length_append]; exact h), List.take_of_length_le (by rw [List.length_append]; omega)]
  refine bext (by rw [setAll_len, setAll_len]) fun j hj => ?_
  rw [setAll_len] at hj
  rw [setAll_nth _ _ _ hj, setAll_nth _ _ _ hj, List.any_append, List.any_append, Bool.or_comm (l.any _)]

/-- An append of a row of numbers, or of none. -/
theorem wpList_append_any {P : Program} {w : World} {ops : Array Oper} {rest : List Oper} {o : Oper} {a : Act} {Q : Exit → Act → World → Prop} {k : IntKind} (hgd : o.guard = none) (s x : Operand) (t : TypeId)
    (ho : o.op = .call { callee := .builtin .append, args := #[s, x], argTypes := #[t, t] })
    (base : Nat) (e : TypeId) (i : TypeInfo) (z : Value) (bytes : Nat) (ht : P.underlying t = some (.slice e)) (hi : P.info? e = some i) (hz : i.zero = some z)
    (hsize : i.size = 1) (hby : i.bytes = bytes) (hzs : z.cells.size = 1)
    (v : Value) (xs : List Int) (hs : a.eval s = v) (hown : w.ownsRow base e 1 v xs.length (ncs k xs))
    (ad : Option Addr) (m : List Int) (c : Nat) (hx : a.eval x = .slice ad m.length c) (hA : At k w ad m) (hc : ad = none → c = 0)
    (h63 : xs.length + m.length ≤ maxLen) (hbytes : (xs.length + m.length) * bytes ≤ 140737488355328) (hbase : base ≤ w.heap.size)
    (h : ∀ v' w', w'.ownsRow base e 1 v' (xs ++ m).length (ncs k (xs ++ m)) → w.grownBy w' v.ownBlock → wpList P ops Q rest (a.put o.dst v') w') : wpList P ops Q (o :: rest) a w := by
  cases ad with
  | none =>
    have hm : m.length = 0 := by
      rcases Nat.eq_zero_or_pos m.length with e | e
      · exact e
      · obtain ⟨b, o', e', _⟩ := hA.pos e; cases e'
    obtain rfl := List.length_eq_zero_iff.1 hm
    obtain rfl := hc rfl
    refine wpList_plain hgd fun K hK => ?_
    have hr := run_append_owned_none (P := P) (w := w) base t o.type e i 1 ht hi v xs.length (ncs k xs) hown
    unfold Oper.wp execOp
    simp only [ho, resolve, invoke, builtin, Sem.run_bind, Sem.run_pure, Result.andThen_ok, List.map_toArray, List.map_cons, List.map_nil, hs, hx, List.length_nil, hr]
    exact hK _ _ (h v w (by rw [List.append_nil]; exact hown) ⟨rfl, rfl, rfl, Nat.le_refl _, fun _ _ _ => rfl⟩)
  | some ad =>
    refine wpList_append_own w hgd s x t ho base e i z 1 bytes ht hi hz hsize hby hzs (by decide) v xs.length (ncs k xs) hs hown ad m.length c (ncs k m) hx (by rw [ncs_len, Nat.mul_one]) (fun j u hj => ?_) (ncs_one _ _) h63 hbytes hbase fun v' w' h1 h2 _ => h v' w' ?_ h2
    · have hl := (List.getElem?_eq_some_iff.1 hj).1
      rw [ncs_len] at hl
      obtain ⟨b, o', e', hcs⟩ := hA.pos (by omega)
      cases e'
      exact ncs_news hcs j u hj
    · rw [List.length_append, show ncs k (xs ++ m) = ncs k xs ++ ncs k m by unfold ncs; rw [List.map_append]]; exact h1

theorem info_w16 : (Tryd.prog.info? 22).map (fun i => (i.zero, i.size, i.bytes)) = some (some (.int .u16 0), 1, 2) := by kernel_rfl

set_option maxRecDepth 100000 in
set_option maxHeartbeats 16000000 in
theorem law04_BitsAgain {la ma : Option Addr} {lc mc : Nat} (n : Int) (l m : List Int) (w : World) (hT : Tab w) (hn : 0 ≤ n ∧ n ≤ 65535) (h : At .u16 w la l) (hl : l.length ≤ 1048576) (hb : ∀ x ∈ l, 0 ≤ x ∧ x ≤ 65535) (hlc : la = none → lc = 0)
    (h' : At .u16 w ma m) (hl' : m.length ≤ 1048576) (hb' : ∀ x ∈ m, 0 ≤ x ∧ x ≤ 65535) (hmc : ma = none → mc = 0) :
    Calls Tryd.prog 7 #[.int .u16 n, .slice la l.length lc, .slice ma m.length mc] w fun e w' => e = .returned (.bool true) ∧ Ext w w' := by
  obtain ⟨i0, hi0, hz0, hz1, hz2⟩ := info_parts info_w16
  have hlm : l.length ≤ maxLen := by unfold maxLen; omega
  have hlm' : m.length ≤ maxLen := by unfold maxLen; omega
  have HT := Lib.hid hT; have H := Lib.hid h; have HB := Lib.hid hb; have HL := Lib.hid hlm; have M := Lib.hid h'; have MB := Lib.hid hb'; have ML := Lib.hid hlm'
  have LC := Lib.hid hlc; have MC := Lib.hid hmc
  obtain ⟨N, hN⟩ : ∃ N : Nat, n % 301 = N := ⟨(n % 301).toNat, by omega⟩
  have HN := Lib.hid hN
  have n0 := hn.1; have n1 := hn.2
  have hN3 : N ≤ 300 := by omega
  have BL := Lib.hid (madeB_len N l)
  have CL := Lib.hid (madeB_len N m)
  have PB := Lib.hid (show ∀ x ∈ l ++ m, 0 ≤ x ∧ x ≤ 65535 from fun x hx => (List.mem_append.1 hx).elim (hb x) (hb' x))
  have QB := Lib.hid (show ∀ x ∈ m ++ l, 0 ≤ x ∧ x ≤ 65535 from fun x hx => (List.mem_append.1 hx).elim (hb' x) (hb x))
  have PM := Lib.hid (show (l ++ m).length ≤ maxLen by rw [List.length_append]; unfold maxLen; omega)
  have QM := Lib.hid (show (m ++ l).length ≤ maxLen by rw [List.length_append]; unfold maxLen; omega)
  have SW := Lib.hid (madeB_swap N l m)
  have K1 := Lib.hid (show l.length + m.length ≤ maxLen by unfold maxLen; omega)
  clear hT h hb hN h' hb' hlm hlm' hlc hmc
  generalize hbs : madeB N l = bs at *
  generalize hcs : madeB N m = cs at *
  have HBS := Lib.hid hbs; have HCS := Lib.hid hcs
  have DL := Lib.hid (show (bless bs cs).length = N by rw [bless_len, BL.out])
  have DT := Lib.hid (bless_twice bs cs)
  clear hbs hcs
  generalize hds : bless bs cs = ds at *
  have HDS := Lib.hid hds
  clear hds
  have WM := Lib.hid (show (wds ds).length ≤ maxLen by rw [wds_len, DL.out]; unfold wlen maxLen; omega)
  have ZC := Lib.hid (show bcnt (bless ds ds) (bless ds ds).length = 0 by rw [bless_self]; exact bcnt_zeros _ _)
  go_enter Tryd.func7, Tryd.ntmps7
  go_wp2_with fail
  refine (law04_made n l N HN.out n0 H.out HL.out HB.out n1).mono ?_
  rw [HBS.out]
  rintro e w1 ⟨b, g, a, cap, rfl, hr, _, bb, gg, _, _, x1⟩
  have R := Lib.hid hr; have X := Lib.hid x1; have GG := Lib.hid gg
  have GL : Hid (0 < N → g < w1.heap.size) := Lib.hid (fun hp => R.out.glt (by rw [BL.out]; exact hp))
  rw [BL.out]
  clear hr x1 gg
  go_wp2_with fail
  refine (law04_made n m N HN.out n0 (M.out.ext X.out) ML.out MB.out n1).mono ?_
  rw [HCS.out]
  rintro e w2 ⟨b', g', a', cap', rfl, hr2, _, bb2, gg2, _, _, x2⟩
  have O := Lib.hid hr2
  have GG2 := Lib.hid gg2
  have R2 := Lib.hid (R.out.ext x2); have X2 := Lib.hid (X.out.trans x2)
  have GL2 : Hid (0 < N → g < w2.heap.size) := Lib.hid fun hp => Nat.lt_of_lt_of_le (GL.out hp) x2.size
  rw [CL.out]
  clear hr2 gg2 x2
  go_wp2_with fail
  refine (row_Less bs cs R2.out O.out (by rw [BL.out, CL.out]) (fun hp => by
    rw [BL.out] at hp
    have := GL.out hp
    have := GG2.out (by rw [CL.out]; exact hp)
    omega)).mono ?_
  rintro e w3 ⟨rfl, hr3, hc3⟩
  rw [HDS.out] at hr3
  have R3 := Lib.hid hr3
  have O3 := Lib.hid (O.out.beside hc3 (fun hp => by
    rw [BL.out] at hp
    have := GL.out hp
    omega) (fun hp _ => by
    rw [BL.out] at hp
    have := GL.out hp
    have := GG2.out (by rw [CL.out]; exact hp)
    omega))
  have X3 := Lib.hid (hc3.over X2.out fun k ⟨hp, he⟩ => by rw [he]; exact GG.out hp)
  have GL3 : Hid (0 < N → g < w3.heap.size) := Lib.hid fun hp => Nat.lt_of_lt_of_le (GL2.out hp) hc3.size
  clear hr3 hc3
  go_wp2_with fail
  refine (row_Words ds R3.out).mono ?_
  rintro e w4 ⟨a4, c4, rfl, n4, x4⟩
  have N4 := Lib.hid n4.row
  have S4 : Hid (0 < N → ∀ x o, a4 = some ⟨x, o, none⟩ → x ≠ g) := Lib.hid fun hp x o e => by
    obtain ⟨g4, e4, h4, _⟩ := n4.own (by rw [wds_len, DL.out]; exact wlen_pos hp)
    rw [e4] at e; cases e
    have := GL3.out hp
    omega
  have R4 := Lib.hid (R3.out.ext x4); have O4 := Lib.hid (O3.out.ext x4); have X4 := Lib.hid (X3.out.trans x4)
  clear n4 x4
  go_wp2_with fail
  refine (row_Less ds cs R4.out O4.out (by rw [DL.out, CL.out]) (fun hp => by
    rw [DL.out] at hp
    have := GL.out hp
    have := GG2.out (by rw [CL.out]; exact hp)
    omega)).mono ?_
  rintro e w5 ⟨rfl, hr5, hc5⟩
  rw [DT.out] at hr5
  have R5 := Lib.hid hr5
  have N5 := Lib.hid (N4.out.chg hc5 fun x o e _ ⟨hp, he⟩ => by
    rw [DL.out] at hp
    exact S4.out hp x o e he)
  have X5 := Lib.hid (hc5.over X4.out fun k ⟨hp, he⟩ => by rw [he]; exact GG.out (by rw [BL.out, ← DL.out]; exact hp))
  clear hr5 hc5 O4 O3
  go_wp2_with fail
  refine (row_Words ds R5.out).mono ?_
  rintro e w6 ⟨a6, c6, rfl, n6, x6⟩
  have N6 := Lib.hid n6.row; have R6 := Lib.hid (R5.out.ext x6); have X6 := Lib.hid (X5.out.trans x6); have M6 := Lib.hid (N5.out.ext x6)
  clear n6 x6
  go_wp2_with fail
  refine (ref03_Same (wds ds) (wds ds) true (by simp) N6.out M6.out WM.out WM.out).mono ?_
  rintro e w7 ⟨rfl, x7⟩
  have R7 := Lib.hid (R6.out.ext x7); have X7 := Lib.hid (X6.out.trans x7)
  clear x7 N6 M6
  go_wp2_with fail
  refine (row_Copy ds R7.out).mono ?_
  rintro e w8 ⟨b8, g8, rfl, hr8, k1, k2, x8⟩
  have O8 := Lib.hid hr8; have R8 := Lib.hid (R7.out.ext x8); have X8 := Lib.hid (X7.out.trans x8)
  have G7 : Hid (0 < N → g < w7.heap.size) := Lib.hid fun hp => R7.out.glt (by rw [DL.out]; exact hp)
  rw [DL.out] at k2
  clear hr8 x8
  go_wp2_with fail
  refine (row_Less ds ds R8.out O8.out rfl (fun hp => by
    rw [DL.out] at hp
    have := G7.out hp
    have := k2 hp
    omega)).mono ?_
  rintro e w9 ⟨rfl, hr9, hc9⟩
  have R9 := Lib.hid hr9
  have X9 := Lib.hid (hc9.over X8.out fun k ⟨hp, he⟩ => by rw [he]; exact GG.out (by rw [BL.out, ← DL.out]; exact hp))
  clear hr9 hc9
  go_wp2_with (at_builtin; first
    | (refine wpList_append_any (k := .u16) rfl (.tmp 47) (.tmp 48) 23 rfl w9.heap.size 22 i0 (.int .u16 0) 2 Tryd.underlying23 hi0 hz0 hz1 hz2 rfl (.slice (some ⟨w9.heap.size, 0, none⟩) 0 0) [] rfl (World.ownsRow_made _ #[] 0 (Nat.le_refl _) (by decide) rfl) la l lc rfl ((H.out.ext X9.out).ext ((Ext.refl _).alloc _)) LC.out (by have := HL.out; simpa using this) (by simp; omega) (by simp) ?_; intro v1 u1 hown1 hgrow1; have O1 := Lib.hid hown1; have E1 := Lib.hid (grown_alloc hgrow1 (Ext.refl w9)); clear hown1 hgrow1)
    | (refine wpList_append_any (k := .u16) rfl (.tmp 49) (.tmp 50) 23 rfl w9.heap.size 22 i0 (.int .u16 0) 2 Tryd.underlying23 hi0 hz0 hz1 hz2 rfl v1 l rfl O1.out ma m mc rfl ((M.out.ext X9.out).ext E1.out) MC.out K1.out (by omega) E1.out.size ?_; intro v2 u2 hown2 hgrow2; have O2 := Lib.hid hown2; have E2 := Lib.hid (E1.out.grown hgrow2 fun k e => (O1.out.lt k e).1); clear hown2 hgrow2))
  obtain ⟨ap, cp, rfl, hp⟩ := newInts_of O2.out
  have AP := Lib.hid hp.row
  have X10 := Lib.hid (X9.out.trans E2.out); have R10 := Lib.hid (R9.out.ext E2.out)
  obtain ⟨ps, hps⟩ : ∃ ps, madeB N (l ++ m) = ps := ⟨_, rfl⟩
  have HPS := Lib.hid hps
  have PL := Lib.hid (show ps.length = N by rw [← hps, madeB_len])
  clear hp hps O1 E1 O2 E2
  refine (law04_made n (l ++ m) N HN.out n0 AP.out PM.out PB.out n1).mono ?_
  rw [HPS.out]
  rintro e w10 ⟨b10, g10, a10, c10, rfl, hr10, _, _, _, _, _, x10⟩
  have P := Lib.hid hr10; have R11 := Lib.hid (R10.out.ext x10); have X11 := Lib.hid (X10.out.trans x10)
  clear hr10 x10
  go_wp2_with (at_builtin; first
    | (refine wpList_append_any (k := .u16) rfl (.tmp 57) (.tmp 58) 23 rfl w10.heap.size 22 i0 (.int .u16 0) 2 Tryd.underlying23 hi0 hz0 hz1 hz2 rfl (.slice (some ⟨w10.heap.size, 0, none⟩) 0 0) [] rfl (World.ownsRow_made _ #[] 0 (Nat.le_refl _) (by decide) rfl) ma m mc rfl ((M.out.ext X11.out).ext ((Ext.refl _).alloc _)) MC.out (by have := ML.out; simpa using this) (by simp; omega) (by simp) ?_; intro v1 u1 hown1 hgrow1; have O1 := Lib.hid hown1; have E1 := Lib.hid (grown_alloc hgrow1 (Ext.refl w10)); clear hown1 hgrow1)
    | (refine wpList_append_any (k := .u16) rfl (.tmp 59) (.tmp 60) 23 rfl w10.heap.size 22 i0 (.int .u16 0) 2 Tryd.underlying23 hi0 hz0 hz1 hz2 rfl v1 m rfl O1.out la l lc rfl ((H.out.ext X11.out).ext E1.out) LC.out (by rw [Nat.add_comm]; exact K1.out) (by omega) E1.out.size ?_; intro v2 u2 hown2 hgrow2; have O2 := Lib.hid hown2; have E2 := Lib.hid (E1.out.grown hgrow2 fun k e => (O1.out.lt k e).1); clear hown2 hgrow2))
  obtain ⟨aq, cq, rfl, hq⟩ := newInts_of O2.out
  have AQ := Lib.hid hq.row
  have X12 := Lib.hid (X11.out.trans E2.out); have R12 := Lib.hid (R11.out.ext E2.out); have P12 := Lib.hid (P.out.ext E2.out)
  obtain ⟨qs, hqs⟩ : ∃ qs, madeB N (m ++ l) = qs := ⟨_, rfl⟩
  have HQS := Lib.hid hqs
  have QL := Lib.hid (show qs.length = N by rw [← hqs, madeB_len])
  clear hq hqs O1 E1 O2 E2
  refine (law04_made n (m ++ l) N HN.out n0 AQ.out QM.out QB.out n1).mono ?_
  rw [HQS.out]
  rintro e w11 ⟨b11, g11, a11, c11, rfl, hr11, _, _, _, _, _, x11⟩
  have Q := Lib.hid hr11; have R13 := Lib.hid (R12.out.ext x11); have X13 := Lib.hid (X12.out.trans x11); have P13 := Lib.hid (P12.out.ext x11)
  clear hr11 x11
  by_cases hlong : 300 < l.length + m.length
  · have t1 : decide ((300 : Int) < (l.length : Int) + (m.length : Int)) = true := by simp; omega
    have t2 : decide (300 < l.length + m.length) = true := by simp; omega
    go_wp2_with fail
    refine (row_Count (bless ds ds) 0 R13.out ZC.out).mono ?_
    rintro e wv ⟨rfl, rfl⟩
    go_wp2_with fail
    refine (law04_awake _ (HT.out.ext X13.out)).mono ?_
    rintro e wz ⟨rfl, x⟩
    go_wp2_with fail
    go_ret
    exact ⟨rfl, X13.out.trans x⟩
  · have EQ := Lib.hid (show qs = ps by rw [← HQS.out, ← HPS.out, SW.out (by omega)])
    have t1 : decide ((300 : Int) < (l.length : Int) + (m.length : Int)) = false := by simp; omega
    have t2 : decide (300 < l.length + m.length) = false := by simp; omega
    have WP := Lib.hid (show (wds ps).length ≤ maxLen by rw [wds_len, PL.out]; unfold wlen maxLen; omega)
    rw [EQ.out] at Q
    go_wp2_with fail
    refine (row_Count (bless ds ds) 0 R13.out ZC.out).mono ?_
    rintro e wv ⟨rfl, rfl⟩
    go_wp2_with fail
    refine (row_Words ps P13.out).mono ?_
    rintro e w14 ⟨a14, c14, rfl, n14, x14⟩
    have N14 := Lib.hid n14.row; have Q14 := Lib.hid (Q.out.ext x14); have X14 := Lib.hid (X13.out.trans x14)
    clear n14 x14
    go_wp2_with fail
    refine (row_Words ps Q14.out).mono ?_
    rintro e w15 ⟨a15, c15, rfl, n15, x15⟩
    have N15 := Lib.hid n15.row; have M15 := Lib.hid (N14.out.ext x15); have X15 := Lib.hid (X14.out.trans x15)
    clear n15 x15
    go_wp2_with fail
    refine (ref03_Same (wds ps) (wds ps) true (by simp) M15.out N15.out WP.out WP.out).mono ?_
    rintro e w16 ⟨rfl, x16⟩
    have X16 := Lib.hid (X15.out.trans x16)
    clear x16 N15 M15
    go_wp2_with fail
    refine (law04_awake _ (HT.out.ext X16.out)).mono ?_
    rintro e wz ⟨rfl, x⟩
    go_wp2_with fail
    go_ret
    exact ⟨rfl, X16.out.trans x⟩

end Go.Proofs.YtfhnjecnamgpkaaDoor
