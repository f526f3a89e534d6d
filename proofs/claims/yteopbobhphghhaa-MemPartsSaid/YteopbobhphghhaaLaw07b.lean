/-
  commonagelaw07: does.
-/
import Derived.Test.YteopbobhphghhaaLaw07a
namespace Go.Proofs.Yteopbobhphghhaa
open Go.RowKit

structure MAct where
  what : Int
  tenant : Int
  addr : Int
  many : Int
  w : Int
instance : Inhabited MAct := ⟨⟨0, 0, 0, 0, 0⟩⟩
def mActnth (l : List MAct) (i : Nat) : MAct := l.getD i default
def MAct.Ok (t : MAct) : Prop := (0 ≤ t.what ∧ t.what ≤ 255) ∧ (-9223372036854775808 ≤ t.tenant ∧ t.tenant ≤ 9223372036854775807) ∧ (-9223372036854775808 ≤ t.addr ∧ t.addr ≤ 9223372036854775807) ∧ (-9223372036854775808 ≤ t.many ∧ t.many ≤ 9223372036854775807) ∧ (0 ≤ t.w ∧ t.w < 18446744073709551616)
def MActAt (w : World) (a : Option Addr) (l : List MAct) : Prop := ∀ i, i < l.length → (mActnth l i).Ok ∧ ∃ b o, a = some ⟨b, o, none⟩ ∧ w.cell? ⟨b, o + i * 5, none⟩ = some (.int .u8 (mActnth l i).what) ∧ w.cell? ⟨b, o + i * 5 + 1, none⟩ = some (.int .i64 (mActnth l i).tenant) ∧ w.cell? ⟨b, o + i * 5 + 2, none⟩ = some (.int .i64 (mActnth l i).addr) ∧ w.cell? ⟨b, o + i * 5 + 3, none⟩ = some (.int .i64 (mActnth l i).many) ∧ w.cell? ⟨b, o + i * 5 + 4, none⟩ = some (.int .u64 (mActnth l i).w)
theorem MActAt.ext {w w' : World} {a : Option Addr} {l : List MAct} (h : MActAt w a l) (hx : Ext w w') : MActAt w' a l := fun i hi => by
  obtain ⟨k, b, o, e, c0, c1, c2, c3, c4⟩ := h i hi
  exact ⟨k, b, o, e, hx.cell c0, hx.cell c1, hx.cell c2, hx.cell c3, hx.cell c4⟩

/-- What an act leaves of a memory's words. -/
def actM (c : Conf) (ws : List Int) (x : MAct) : List Int :=
  if x.what % 4 = 2 then ws else if x.what % 4 = 3 then (zeroR c ws x.tenant x.addr x.many).1 else (storeR c ws x.tenant x.addr x.w).1
/-- What 'does' hands back. -/
def DidM (P : Nat → Prop) (c : Conf) (b gw gb : Nat) (ws' : List Int) (w : World) (e : Ending) (w' : World) : Prop :=
  ∃ d cap, e = .returned (.tuple #[.agg #[.slice (some ⟨d, 0, none⟩) c.ts.length cap], .bool true]) ∧ MemAt w' b gw gb c ws' ∧ DocAt P w' d c ws' ∧ Chg (isB gw) w w'

theorem DocAt.off0 {P : Nat → Prop} {w : World} {d b : Nat} {c : Conf} {ws : List Int} (h : DocAt P w d c ws) (hc : w.cell? ⟨b, 0, none⟩ = some (.slice none 0 0)) (u : Value) : DocAt P (w.setCell ⟨b, 0, none⟩ u) d c ws := by
  refine h.off ?_ hc (by intro x e; cases e) u
  rintro rfl
  obtain ⟨g, rc, _, h1, _⟩ := h.row 0 (by have := h.ok.head.2.2.1; omega)
  rw [hc] at h1
  cases h1
theorem Chg.boxAt {P : Nat → Prop} {w w' : World} (h : Chg P w w') {p : Addr} {v : Value} (hp : ¬ P p.block) (hc : w.cell? p = some v ∧ w.frozen? p = false) : w'.cell? p = some v ∧ w'.frozen? p = false :=
  ⟨h.cell hp hc.1, by rw [h.frozen (cell_lt hc.1) hp]; exact hc.2⟩

set_option maxRecDepth 100000 in
set_option maxHeartbeats 8000000 in
theorem law07_does {P : Nat → Prop} {b gw gb d cap : Nat} {c : Conf} {ws : List Int} {w : World} (x : MAct) (hg : P gw) (hP : ∀ k, P k → k < w.heap.size) (hx : x.Ok) (hm : MemAt w b gw gb c ws) (hd : DocAt P w d c ws) :
    Calls Try.prog 18 #[.pointer (some ⟨b, 0, none⟩), .agg #[.slice (some ⟨d, 0, none⟩) c.ts.length cap], .agg #[.int .u8 x.what, .int .i64 x.tenant, .int .i64 x.addr, .int .i64 x.many, .int .u64 x.w]] w (DidM P c b gw gb (actM c ws x) w) := by
  obtain ⟨wh, t, a, n, v⟩ := x
  obtain ⟨ok1, ok2, ok3, ok4, ok5⟩ := hx
  dsimp only at ok1 ok2 ok3 ok4 ok5 ⊢
  have A64 := Lib.hid (show is64 a from ok3); have N64 := Lib.hid (show is64 n from ok4)
  obtain ⟨z, hz⟩ : ∃ z, w.heap.size = z := ⟨_, rfl⟩
  have X0 := (((Ext.refl w).alloc (.cells #[.slice (some ⟨d, 0, none⟩) c.ts.length cap] 48)).alloc (.cells #[.int .u8 wh, .int .i64 t, .int .i64 a, .int .i64 n, .int .u64 v] 36)).alloc (.cells #[.slice none 0 0] 48)
  have BQ := Lib.hid (box_up (box_new w (.slice (some ⟨d, 0, none⟩) c.ts.length cap) 48 hz) (((Ext.refl _).alloc (.cells #[.int .u8 wh, .int .i64 t, .int .i64 a, .int .i64 n, .int .u64 v] 36)).alloc (.cells #[.slice none 0 0] 48)))
  have BR := Lib.hid (box_new ((w.alloc (.cells #[.slice (some ⟨d, 0, none⟩) c.ts.length cap] 48)).alloc (.cells #[.int .u8 wh, .int .i64 t, .int .i64 a, .int .i64 n, .int .u64 v] 36)) (.slice none 0 0) 48 (b := z + 1 + 1) (by simp [hz]))
  have BX : Hid (∀ i u, #[Value.int .u8 wh, .int .i64 t, .int .i64 a, .int .i64 n, .int .u64 v][i]? = some u → (((w.alloc (.cells #[.slice (some ⟨d, 0, none⟩) c.ts.length cap] 48)).alloc (.cells #[.int .u8 wh, .int .i64 t, .int .i64 a, .int .i64 n, .int .u64 v] 36)).alloc (.cells #[.slice none 0 0] 48)).cell? ⟨z + 1, i, none⟩ = some u) := Lib.hid fun i u hu => by
    refine cell_alloc ?_ _
    have := cell_newN (w.alloc (.cells #[.slice (some ⟨d, 0, none⟩) c.ts.length cap] 48)) #[.int .u8 wh, .int .i64 t, .int .i64 a, .int .i64 n, .int .u64 v] 36 i
    rw [hu] at this
    rw [show z + 1 = (w.alloc (.cells #[.slice (some ⟨d, 0, none⟩) c.ts.length cap] 48)).heap.size by simp [hz]]
    exact this
  have HM := Lib.hid hm; have HD := Lib.hid hd; have HP := Lib.hid hP; have HG := Lib.hid hg
  have lm := hm.lt
  have ld := hd.lt
  obtain ⟨m1, m2, m3⟩ := lm
  obtain ⟨w0, w255⟩ := ok1
  have hw0 := Int.emod_nonneg wh (show (4 : Int) ≠ 0 by decide)
  have hw1 := Int.emod_lt_of_pos wh (show (0 : Int) < 4 by decide)
  clear hm hd hP hg ok2 ok3 ok4 ok5
  unfold actM
  dsimp only
  obtain ⟨y, hy⟩ : ∃ y, wh % 4 = y := ⟨_, rfl⟩
  rw [hy] at hw0 hw1 ⊢
  have HY := Lib.hid hy
  rcases (show y = 2 ∨ y = 3 ∨ (y ≠ 2 ∧ y ≠ 3) by omega) with rfl | rfl | ⟨y2, y3⟩
  · obtain ⟨lv, lk, hl⟩ : ∃ lv lk, loadR c ws t a = (lv, lk) := ⟨_, _, rfl⟩
    have HL := Lib.hid hl
    rw [if_pos rfl]
    clear hl
    go_enter Try.func18, Try.ntmps18
    go_wp2_with fail
    refine (mem_Load lv lk (HM.out.ext X0) A64.out HL.out).mono ?_
    rintro e w1 ⟨rfl, x1⟩
    have q1 := (box_up BQ.out x1).1
    have c1 := x1.cell (BX.out 1 _ rfl)
    have c2 := x1.cell (BX.out 2 _ rfl)
    go_wp2_with fail
    clear q1 c1 c2
    refine (ref07_Load lv lk (HD.out.ext (X0.trans x1)) HL.out).mono ?_
    rintro e w2 ⟨rfl, x2⟩
    have q1 := (box_up BQ.out (x1.trans x2)).1
    obtain ⟨r1, r2⟩ := box_up BR.out (x1.trans x2)
    go_wp2_with fail
    have q2 := World.cell?_setCell_same w2 ⟨z + 1 + 1, 0, none⟩ (.slice (some ⟨d, 0, none⟩) c.ts.length cap) r1
    refine bodyPost_ret (v := .tuple #[.agg #[.slice (some ⟨d, 0, none⟩) c.ts.length cap], .bool true]) (by simp [results, Try.results18, go_sem, q2]) rfl ⟨d, cap, rfl, ?_, ?_, ?_⟩
    · exact (HM.out.ext (X0.trans (x1.trans x2))).far (by omega) (by omega) (by omega) _
    · exact (HD.out.ext (X0.trans (x1.trans x2))).off (by omega) r1 (by intro x e; cases e) _
    · exact (Chg.of_ext (X0.trans (x1.trans x2))).setCell (p := ⟨z + 1 + 1, 0, none⟩) (.inr (by show w.heap.size ≤ z + 1 + 1; omega)) _
  · obtain ⟨ws', k, hr⟩ : ∃ ws' k, zeroR c ws t a n = (ws', k) := ⟨_, _, rfl⟩
    have HR := Lib.hid hr
    rw [if_neg (by decide), if_pos rfl, hr]
    dsimp only
    clear hr
    have c1 := BX.out 1 _ rfl
    have c2 := BX.out 2 _ rfl
    have c3 := BX.out 3 _ rfl
    have q1 := BQ.out.1
    go_enter Try.func18, Try.ntmps18
    go_wp2_with fail
    refine (ref07_Zero (P := P) (HD.out.ext X0) (fun k q => Nat.lt_of_lt_of_le (HP.out k q) X0.size) HR.out A64.out N64.out).mono ?_
    rintro e w1 ⟨d2, cap2, rfl, hd2, x1⟩
    have HD2 := Lib.hid hd2
    clear hd2 c1 c2 c3 q1
    have c1 := x1.cell (BX.out 1 _ rfl)
    have c2 := x1.cell (BX.out 2 _ rfl)
    have c3 := x1.cell (BX.out 3 _ rfl)
    obtain ⟨r1, r2⟩ := box_up BR.out x1
    have rl : z + 1 + 1 < w1.heap.size := cell_lt r1
    go_wp2_with fail
    have xb := (Ext.refl w1).alloc (.cells #[.slice (some ⟨d2, 0, none⟩) c.ts.length cap2] 48)
    obtain ⟨pb, hpb⟩ : ∃ pb, w1.heap.size = pb := ⟨_, rfl⟩
    have p1 := (box_new w1 (.slice (some ⟨d2, 0, none⟩) c.ts.length cap2) 48 hpb).1
    replace c1 := cell_alloc c1 (.cells #[.slice (some ⟨d2, 0, none⟩) c.ts.length cap2] 48)
    replace c2 := cell_alloc c2 (.cells #[.slice (some ⟨d2, 0, none⟩) c.ts.length cap2] 48)
    replace c3 := cell_alloc c3 (.cells #[.slice (some ⟨d2, 0, none⟩) c.ts.length cap2] 48)
    replace r1 := cell_alloc r1 (.cells #[.slice (some ⟨d2, 0, none⟩) c.ts.length cap2] 48)
    replace r2 := xb.frozenAt (p := ⟨z + 1 + 1, 0, none⟩) (v := .slice none 0 0) (box_up BR.out x1).1 r2
    have XB := Lib.hid ((X0.trans x1).trans xb)
    have HDB := Lib.hid (HD2.out.ext xb)
    rw [hpb]
    rw [hpb] at rl
    generalize w1.alloc (.cells #[.slice (some ⟨d2, 0, none⟩) c.ts.length cap2] 48) = wb at *
    have n1 : ¬ isB gw (z + 1) := by unfold isB; omega
    have n2 : ¬ isB gw pb := by unfold isB; omega
    have n5 : ¬ isB gw (z + 1 + 1) := by unfold isB; omega
    have n3 : z + 1 + 1 ≠ z + 1 := by omega
    have n4 : z + 1 + 1 ≠ pb := by omega
    clear hpb xb
    go_region_held3 (fun w' => w'.cell? ⟨z + 1, 1, none⟩ = some (.int .i64 t) ∧ w'.cell? ⟨z + 1, 2, none⟩ = some (.int .i64 a) ∧ w'.cell? ⟨z + 1, 3, none⟩ = some (.int .i64 n) ∧ w'.cell? ⟨pb, 0, none⟩ = some (.slice (some ⟨d2, 0, none⟩) c.ts.length cap2))
      ((first | (go_split_ands; exact ⟨hc5.cell n1 (by assumption), hc5.cell n1 (by assumption), hc5.cell n1 (by assumption), hc5.cell n2 (by assumption)⟩) | (go_split_ands; with_reducible exact ⟨(cell_far _ _ _ _ n3).trans (by assumption), (cell_far _ _ _ _ n3).trans (by assumption), (cell_far _ _ _ _ n3).trans (by assumption), (cell_far _ _ _ _ n4).trans (by assumption)⟩) | go_keep))
      ((go_at_call 13; refine (mem_Zero (HM.out.ext (Ext.trans XB.out (by repeat (first | with_reducible exact Ext.refl _ | with_reducible refine Ext.drew ?_ | with_reducible refine Ext.drewN ?_ _)))) A64.out N64.out HR.out).mono ?_; rintro e w5 ⟨rfl, hc5, hm5⟩; obtain ⟨rr1, rr2⟩ := hc5.boxAt n5 (box_up ⟨r1, r2⟩ (by repeat (first | with_reducible exact Ext.refl _ | with_reducible refine Ext.drew ?_ | with_reducible refine Ext.drewN ?_ _)))))
    all_goals
      go_wp2_with fail
      have q2 := World.cell?_setCell_same w5 ⟨z + 1 + 1, 0, none⟩ (.slice (some ⟨d2, 0, none⟩) c.ts.length cap2) rr1
      refine bodyPost_ret (v := .tuple #[.agg #[.slice (some ⟨d2, 0, none⟩) c.ts.length cap2], .bool true]) (by simp [results, Try.results18, go_sem, q2]) rfl ⟨d2, cap2, rfl, ?_, ?_, ?_⟩
      · exact hm5.far (by omega) (by omega) (by omega) _
      · exact ((HDB.out.ext (by repeat (first | with_reducible exact Ext.refl _ | with_reducible refine Ext.drew ?_ | with_reducible refine Ext.drewN ?_ _))).chg hc5 fun k hk => by unfold isB at hk; rw [hk]; exact HG.out).off0 rr1 _
      · exact (((Chg.of_ext XB.out).trans (Chg.of_ext (by repeat (first | with_reducible exact Ext.refl _ | with_reducible refine Ext.drew ?_ | with_reducible refine Ext.drewN ?_ _)))).trans hc5).setCell (p := ⟨z + 1 + 1, 0, none⟩) (.inr (by show w.heap.size ≤ z + 1 + 1; omega)) _
  · obtain ⟨ws', k, hr⟩ : ∃ ws' k, storeR c ws t a v = (ws', k) := ⟨_, _, rfl⟩
    have HR := Lib.hid hr
    rw [if_neg y2, if_neg y3, hr]
    dsimp only
    have u2 : (y == 2) = false := by simpa using y2
    have u3 : (y == 3) = false := by simpa using y3
    clear hr y2 y3
    have c1 := BX.out 1 _ rfl
    have c2 := BX.out 2 _ rfl
    have c3 := BX.out 4 _ rfl
    have q1 := BQ.out.1
    go_enter Try.func18, Try.ntmps18
    go_wp2_with fail
    refine (ref07_Store (P := P) (HD.out.ext X0) (fun k q => Nat.lt_of_lt_of_le (HP.out k q) X0.size) HR.out).mono ?_
    rintro e w1 ⟨d2, cap2, rfl, hd2, x1⟩
    have HD2 := Lib.hid hd2
    clear hd2 c1 c2 c3 q1
    have c1 := x1.cell (BX.out 1 _ rfl)
    have c2 := x1.cell (BX.out 2 _ rfl)
    have c3 := x1.cell (BX.out 4 _ rfl)
    obtain ⟨r1, r2⟩ := box_up BR.out x1
    have rl : z + 1 + 1 < w1.heap.size := cell_lt r1
    go_wp2_with fail
    have xb := (Ext.refl w1).alloc (.cells #[.slice (some ⟨d2, 0, none⟩) c.ts.length cap2] 48)
    obtain ⟨pb, hpb⟩ : ∃ pb, w1.heap.size = pb := ⟨_, rfl⟩
    have p1 := (box_new w1 (.slice (some ⟨d2, 0, none⟩) c.ts.length cap2) 48 hpb).1
    replace c1 := cell_alloc c1 (.cells #[.slice (some ⟨d2, 0, none⟩) c.ts.length cap2] 48)
    replace c2 := cell_alloc c2 (.cells #[.slice (some ⟨d2, 0, none⟩) c.ts.length cap2] 48)
    replace c3 := cell_alloc c3 (.cells #[.slice (some ⟨d2, 0, none⟩) c.ts.length cap2] 48)
    replace r1 := cell_alloc r1 (.cells #[.slice (some ⟨d2, 0, none⟩) c.ts.length cap2] 48)
    replace r2 := xb.frozenAt (p := ⟨z + 1 + 1, 0, none⟩) (v := .slice none 0 0) (box_up BR.out x1).1 r2
    have XB := Lib.hid ((X0.trans x1).trans xb)
    have HDB := Lib.hid (HD2.out.ext xb)
    rw [hpb]
    rw [hpb] at rl
    generalize w1.alloc (.cells #[.slice (some ⟨d2, 0, none⟩) c.ts.length cap2] 48) = wb at *
    have n1 : ¬ isB gw (z + 1) := by unfold isB; omega
    have n2 : ¬ isB gw pb := by unfold isB; omega
    have n5 : ¬ isB gw (z + 1 + 1) := by unfold isB; omega
    have n3 : z + 1 + 1 ≠ z + 1 := by omega
    have n4 : z + 1 + 1 ≠ pb := by omega
    clear hpb xb
    go_region_held3 (fun w' => w'.cell? ⟨z + 1, 1, none⟩ = some (.int .i64 t) ∧ w'.cell? ⟨z + 1, 2, none⟩ = some (.int .i64 a) ∧ w'.cell? ⟨z + 1, 4, none⟩ = some (.int .u64 v) ∧ w'.cell? ⟨pb, 0, none⟩ = some (.slice (some ⟨d2, 0, none⟩) c.ts.length cap2))
      ((first | (go_split_ands; exact ⟨hc5.cell n1 (by assumption), hc5.cell n1 (by assumption), hc5.cell n1 (by assumption), hc5.cell n2 (by assumption)⟩) | (go_split_ands; with_reducible exact ⟨(cell_far _ _ _ _ n3).trans (by assumption), (cell_far _ _ _ _ n3).trans (by assumption), (cell_far _ _ _ _ n3).trans (by assumption), (cell_far _ _ _ _ n4).trans (by assumption)⟩) | go_keep))
      ((go_at_call 14; refine (mem_Store (HM.out.ext (Ext.trans XB.out (by repeat (first | with_reducible exact Ext.refl _ | with_reducible refine Ext.drew ?_ | with_reducible refine Ext.drewN ?_ _)))) A64.out HR.out).mono ?_; rintro e w5 ⟨rfl, hc5, hm5⟩; obtain ⟨rr1, rr2⟩ := hc5.boxAt n5 (box_up ⟨r1, r2⟩ (by repeat (first | with_reducible exact Ext.refl _ | with_reducible refine Ext.drew ?_ | with_reducible refine Ext.drewN ?_ _)))))
    all_goals
      go_wp2_with fail
      have q2 := World.cell?_setCell_same w5 ⟨z + 1 + 1, 0, none⟩ (.slice (some ⟨d2, 0, none⟩) c.ts.length cap2) rr1
      refine bodyPost_ret (v := .tuple #[.agg #[.slice (some ⟨d2, 0, none⟩) c.ts.length cap2], .bool true]) (by simp [results, Try.results18, go_sem, q2]) rfl ⟨d2, cap2, rfl, ?_, ?_, ?_⟩
      · exact hm5.far (by omega) (by omega) (by omega) _
      · exact ((HDB.out.ext (by repeat (first | with_reducible exact Ext.refl _ | with_reducible refine Ext.drew ?_ | with_reducible refine Ext.drewN ?_ _))).chg hc5 fun k hk => by unfold isB at hk; rw [hk]; exact HG.out).off0 rr1 _
      · exact (((Chg.of_ext XB.out).trans (Chg.of_ext (by repeat (first | with_reducible exact Ext.refl _ | with_reducible refine Ext.drew ?_ | with_reducible refine Ext.drewN ?_ _)))).trans hc5).setCell (p := ⟨z + 1 + 1, 0, none⟩) (.inr (by show w.heap.size ≤ z + 1 + 1; omega)) _

end Go.Proofs.Yteopbobhphghhaa
