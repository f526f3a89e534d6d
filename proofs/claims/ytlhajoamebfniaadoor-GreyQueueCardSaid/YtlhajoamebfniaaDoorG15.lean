/-
  Merged texts: Law17a, Law17b, Law17c, Law17d, Law17e, GreyQ.
-/
import Derived.Test.YtlhajoamebfniaaDoorG03
import Derived.Test.YtlhajoamebfniaaDoorG11
import Derived.Test.YtlhajoamebfniaaDoorG14
import Derived.Test.YtlhajoamebfniaaDoorG09
set_option linter.unusedVariables false
set_option linter.unusedSimpArgs false
/-! commonagelaw17: a grey of the law's own; awake. -/
namespace Go.Proofs.YtlhajoamebfniaaDoor
open Go.RowKit
variable {w0 w w' : World} {b pb gp ob og db dg rg : Nat} {c : Conf} {t n f : Nat} {g g' : GS}

theorem GreyF.tab (h : GreyF w b pb gp ob og db dg rg c t n f g) (hT : Tab w) : ¬ grB b og dg rg 0 := by
  have t0 := hT 0 (by decide)
  rintro (e | e | e | e)
  · have := h.box.c 0 _ rfl
    rw [← e, t0] at this; cases this
  · have := h.ow.word h.opos 0 (wlen_pos h.opos)
    rw [← e, t0] at this; cases this
  · have := h.di.word h.dpos 0 (wlen_pos h.dpos)
    rw [← e, t0] at this; cases this
  · obtain ⟨x, hx⟩ := h.ring.all 0 (by have := h.ring.fn; omega)
    rw [← e, t0] at hx; cases hx
/-- A box that holds nothing is none of a grey's blocks. -/
theorem GreyF.far {x : Nat} (h : GreyF w b pb gp ob og db dg rg c t n f g) (hc : w.cell? ⟨x, 0, none⟩ = some (.slice none 0 0)) (hx : Chg (fun k => k = x) w w') : GreyF w' b pb gp ob og db dg rg c t n f g := by
  have rowB : ∀ {ob og : Nat} {bs : List Bool}, RowAt w ob og bs → 0 < bs.length → ob ≠ x ∧ og ≠ x := by
    intro ob og bs hr hp
    constructor
    · rintro rfl
      obtain ⟨a, cap, h0, _, _, _, hg⟩ := hr.ex
      rw [(hg hp).1, hc] at h0; cases h0
    · rintro rfl
      have := hr.word hp 0 (wlen_pos hp)
      rw [hc] at this; cases this
  refine h.chg hx ?_ ⟨?_, ?_⟩ (rowB h.ow h.opos) (rowB h.di h.dpos) ?_
  · rintro rfl
    have := h.box.c 0 _ rfl; rw [hc] at this; cases this
  · rintro rfl
    obtain ⟨cap, h0⟩ := h.plan.parts
    rw [hc] at h0; cases h0
  · rintro rfl
    have := h.plan.row 0 h.plan.ok.cl.pos 0 _ rfl
    rw [Nat.zero_mul, Nat.add_zero, hc] at this; cases this
  · rintro rfl
    obtain ⟨y, hy⟩ := h.ring.all 0 (by have := h.ring.fn; omega)
    rw [hc] at hy; cases hy

/-- A grey of the law's own. -/
structure OwnG (w0 w : World) (b pb gp ob og db dg rg : Nat) (c : Conf) (t n : Nat) (g : GS) : Prop where
  gr : GreyAt w b pb gp ob og db dg rg c t n g
  tab : Tab w
  ext : Ext w0 w
  low : w0.heap.size ≤ b ∧ w0.heap.size ≤ og ∧ w0.heap.size ≤ dg ∧ w0.heap.size ≤ rg
theorem OwnG.go (h : OwnG w0 w b pb gp ob og db dg rg c t n g) (hx : Ext w w') : OwnG w0 w' b pb gp ob og db dg rg c t n g := ⟨h.gr.ext hx, h.tab.ext hx, h.ext.trans hx, h.low⟩
theorem OwnG.turn (h : OwnG w0 w b pb gp ob og db dg rg c t n g) (hg : GreyAt w' b pb gp ob og db dg rg c t n g') (hc : Chg (grB b og dg rg) w w') : OwnG w0 w' b pb gp ob og db dg rg c t n g' := by
  obtain ⟨f, hf⟩ := h.gr
  exact ⟨hg, h.tab.chg hc (hf.tab h.tab), hc.over h.ext fun k hk => by have hl := h.low; unfold grB at hk; omega, h.low⟩
theorem OwnG.far {x : Nat} (h : OwnG w0 w b pb gp ob og db dg rg c t n g) (hc : w.cell? ⟨x, 0, none⟩ = some (.slice none 0 0)) (hx : Chg (fun k => k = x) w w') (hl : w0.heap.size ≤ x) : OwnG w0 w' b pb gp ob og db dg rg c t n g := by
  obtain ⟨f, hf⟩ := h.gr
  exact ⟨⟨f, hf.far hc hx⟩, h.tab.far hc hx, hx.over h.ext fun k e => by rw [e]; exact hl, h.low⟩

/-! ### The contracts, of a grey of the law's own -/
theorem own_Put {s e : Int} (h : OwnG w0 w b pb gp ob og db dg rg c t n g) (hr : putG c t n g s = (g', e)) :
    Calls Tryd.prog 15 #[.pointer (some ⟨b, 0, none⟩), .int .i64 s] w fun r w' => r = .returned (.int .i64 e) ∧ OwnG w0 w' b pb gp ob og db dg rg c t n g' ∧ Chg (grB b og dg rg) w w' := by
  obtain ⟨f, hf⟩ := h.gr
  exact (grey_Put hf hr).mono fun _ _ ⟨h1, h2, h3⟩ => ⟨h1, h.turn h2 h3, h3⟩
theorem own_Next {x : Int} {is : Bool} (h : OwnG w0 w b pb gp ob og db dg rg c t n g) (hr : nextG g = (g', x, is)) :
    Calls Tryd.prog 16 #[.pointer (some ⟨b, 0, none⟩)] w fun r w' => r = .returned (.tuple #[.int .i64 x, .bool is]) ∧ OwnG w0 w' b pb gp ob og db dg rg c t n g' ∧ Chg (grB b og dg rg) w w' := by
  obtain ⟨f, hf⟩ := h.gr
  exact (grey_Next hf hr).mono fun _ _ ⟨h1, h2, h3⟩ => ⟨h1, h.turn h2 h3, h3⟩
theorem own_Walk {x : Int} {is went : Bool} (h : OwnG w0 w b pb gp ob og db dg rg c t n g) (hr : walkG c t g = (g', x, is, went)) :
    Calls Tryd.prog 17 #[.pointer (some ⟨b, 0, none⟩)] w fun r w' => r = .returned (.tuple #[.int .i64 x, .bool is, .bool went]) ∧ OwnG w0 w' b pb gp ob og db dg rg c t n g' ∧ Chg (grB b og dg rg) w w' := by
  obtain ⟨f, hf⟩ := h.gr
  exact (grey_Walk hf h.tab hr).mono fun _ _ ⟨h1, h2, h3⟩ => ⟨h1, h.turn h2 h3, h3⟩
theorem own_Clear (h : OwnG w0 w b pb gp ob og db dg rg c t n g) :
    Calls Tryd.prog 39 #[.pointer (some ⟨b, 0, none⟩)] w fun r w' => r = .returned (.tuple #[]) ∧ OwnG w0 w' b pb gp ob og db dg rg c t n (clearG c t) ∧ Chg (grB b og dg rg) w w' := by
  obtain ⟨f, hf⟩ := h.gr
  exact (grey_Clear hf).mono fun _ _ ⟨h1, h2, h3⟩ => ⟨h1, h.turn h2 h3, h3⟩
theorem own_Empty (r : Bool) (h : OwnG w0 w b pb gp ob og db dg rg c t n g) (hr : emptyG g = r) :
    Calls Tryd.prog 18 #[.pointer (some ⟨b, 0, none⟩)] w fun e w' => e = .returned (.bool r) ∧ OwnG w0 w' b pb gp ob og db dg rg c t n g ∧ Ext w w' := by
  obtain ⟨f, hf⟩ := h.gr
  exact (grey_Empty r hf hr).mono fun _ _ ⟨h1, h2⟩ => ⟨h1, h.go h2, h2⟩
theorem own_Len {m : Nat} (h : OwnG w0 w b pb gp ob og db dg rg c t n g) (hm : g.q.length = m) : Calls Tryd.prog 14 #[.pointer (some ⟨b, 0, none⟩)] w fun e w' => e = .returned (.int .i64 m) ∧ w = w' := by
  obtain ⟨f, hf⟩ := h.gr
  exact grey_Len hf hm
theorem own_Owed {m : Nat} (h : OwnG w0 w b pb gp ob og db dg rg c t n g) (hm : owedG g = m) : Calls Tryd.prog 19 #[.pointer (some ⟨b, 0, none⟩)] w fun e w' => e = .returned (.int .i64 m) ∧ w = w' := by
  obtain ⟨f, hf⟩ := h.gr
  exact grey_Owed hf hm
theorem own_New (h : PlanAt w pb gp c t) (hn : 1 ≤ n ∧ n ≤ 64) (hT : Tab w) (hx : Ext w0 w) :
    Calls Tryd.prog 49 #[.pointer (some ⟨pb, 0, none⟩), .int .i64 n] w fun e w' => ∃ b ob og db dg rg, e = .returned (.tuple #[.pointer (some ⟨b, 0, none⟩), .int .i64 0]) ∧ OwnG w0 w' b pb gp ob og db dg rg c t n (clearG c t) ∧ Ext w w' ∧ w.heap.size ≤ b ∧ w.heap.size ≤ og ∧ w.heap.size ≤ dg ∧ w.heap.size ≤ rg := by
  refine (grey_New h hn).mono ?_
  rintro e w' ⟨r, rfl, b, ob, og, db, dg, rg, rfl, hg, l1, l2, l3, l4, l5, l6, x⟩
  have s := hx.size
  exact ⟨b, ob, og, db, dg, rg, rfl, ⟨hg, hT.ext x, hx.trans x, by omega, by omega, by omega, by omega⟩, x, l1, l3, l5, l6⟩

/-! ### The example -/
def exO (l : List Nat) (m : Nat) : List Bool := (List.range m).map fun i => l.contains i
def exG (q : List Int) (o d : List Nat) (a e : Nat) : GS := ⟨q, exO o 15, exO d 6, a, e⟩
instance : DecidableEq GS := fun a b => decidable_of_iff (a.q = b.q ∧ a.ow = b.ow ∧ a.di = b.di ∧ a.at_ = b.at_ ∧ a.en = b.en) ⟨fun ⟨h1, h2, h3, h4, h5⟩ => by cases a; cases b; cases h1; cases h2; cases h3; cases h4; cases h5; rfl, fun h => by subst h; exact ⟨rfl, rfl, rfl, rfl, rfl⟩⟩
theorem eg_0 : clearG exC 0 = exG [] [] [] 0 0 := by decide +kernel
theorem eg_1 : putG exC 0 2 (exG [] [] [] 0 0) 1 = (exG [1] [] [] 0 0, 0) := by decide +kernel
theorem eg_2 : putG exC 0 2 (exG [1] [] [] 0 0) 5 = (exG [1, 5] [] [] 0 0, 0) := by decide +kernel
theorem eg_3 : putG exC 0 2 (exG [1, 5] [] [] 0 0) 6 = (exG [1, 5] [6] [1] 0 0, 0) := by decide +kernel
theorem eg_4 : putG exC 0 2 (exG [1, 5] [6] [1] 0 0) 4 = (exG [1, 5] [6, 4] [1] 0 0, 0) := by decide +kernel
theorem eg_5 : walkG exC 0 (exG [1, 5] [6, 4] [1] 0 0) = (exG [1, 5] [6, 4] [1] 0 0, 0, false, false) := by decide +kernel
theorem eg_6 : owedG (exG [1, 5] [6, 4] [1] 0 0) = 2 := by decide +kernel
theorem eg_7 : nextG (exG [1, 5] [6, 4] [1] 0 0) = (exG [5] [6, 4] [1] 0 0, 1, true) := by decide +kernel
theorem eg_8 : nextG (exG [5] [6, 4] [1] 0 0) = (exG [] [6, 4] [1] 0 0, 5, true) := by decide +kernel
theorem eg_9 : walkG exC 0 (exG [] [6, 4] [1] 0 0) = (exG [] [6] [] 5 8, 4, true, true) := by decide +kernel
theorem eg_10 : walkG exC 0 (exG [] [6] [] 5 8) = (exG [] [6] [] 6 8, 0, false, true) := by decide +kernel
theorem eg_11 : walkG exC 0 (exG [] [6] [] 6 8) = (exG [] [] [] 7 8, 6, true, true) := by decide +kernel
theorem eg_12 : walkG exC 0 (exG [] [] [] 7 8) = (exG [] [] [] 8 8, 0, false, true) := by decide +kernel
theorem eg_13 : emptyG (exG [] [] [] 8 8) = true := by decide +kernel

set_option maxRecDepth 100000 in
set_option maxHeartbeats 8000000 in
theorem law17_awake (w : World) (hT : Tab w) : Calls Tryd.prog 12 #[] w fun e w' => e = .returned (.bool true) ∧ Ext w w' := by
  have K0 := Lib.hid (show kcheck exC = 0 by decide)
  have HT := Lib.hid hT
  clear hT
  obtain ⟨z, hz⟩ : ∃ z, w.heap.size = z := ⟨_, rfl⟩
  go_enter Tryd.func12, Tryd.ntmps12
  go_wp2_with fail
  have x0 : Ext w ((w.alloc (.cells #[.int .i64 2, .int .i64 4] 3)).alloc (.cells #[.int .i64 20, .int .i64 8, .int .i64 4, .int .i64 1, .int .i64 4, .int .i64 1, .int .i64 1, .int .i64 0] 63)) := ((Ext.refl w).alloc _).alloc _
  have HC : Hid (CfgAt ((w.alloc (.cells #[.int .i64 2, .int .i64 4] 3)).alloc (.cells #[.int .i64 20, .int .i64 8, .int .i64 4, .int .i64 1, .int .i64 4, .int .i64 1, .int .i64 1, .int .i64 0] 63)) (some ⟨z, 0, none⟩) (some ⟨z + 1, 0, none⟩) 2 2 exC) := Lib.hid
    ⟨(At.newb .i64 w [2, 4] 3 z hz).ext ((Ext.refl _).alloc _), (TenAt.newb _ exC.ts _ _ _ (by simp [hz]) (by
      intro i hi
      have h2 : i < 2 := hi
      match i, h2 with
      | 0, _ => exact ⟨rfl, rfl, rfl, rfl⟩
      | 1, _ => exact ⟨rfl, rfl, rfl, rfl⟩)), by decide, by decide, by decide, by decide, by decide, by decide⟩
  refine (slot_New exC 0 K0.out (by decide) HC.out).mono ?_
  rintro e w1 ⟨pb, gp, rfl, hp, x1⟩
  have HP := Lib.hid hp
  have X1 := Lib.hid (x0.trans x1)
  clear hp x1 x0
  go_wp2_with fail
  refine (own_New (w0 := w) (n := 2) HP.out (by decide) (HT.out.ext X1.out) X1.out).mono ?_
  rintro e w2 ⟨b, ob, og, db, dg, rg, rfl, ho, x2, _⟩
  have O := Lib.hid (show OwnG w w2 b pb gp ob og db dg rg exC 0 2 (exG [] [] [] 0 0) from eg_0 ▸ ho)
  clear ho x2
  go_wp2_with fail
  refine (own_Put O.out eg_1).mono ?_
  rintro e w3 ⟨rfl, ho, _⟩
  replace O := Lib.hid ho
  clear ho
  go_wp2_with fail
  refine (own_Put O.out eg_2).mono ?_
  rintro e w4 ⟨rfl, ho, _⟩
  replace O := Lib.hid ho
  clear ho
  go_wp2_with fail
  refine (own_Put O.out eg_3).mono ?_
  rintro e w5 ⟨rfl, ho, _⟩
  replace O := Lib.hid ho
  clear ho
  go_wp2_with fail
  refine (own_Put O.out eg_4).mono ?_
  rintro e w6 ⟨rfl, ho, _⟩
  replace O := Lib.hid ho
  clear ho
  go_wp2_with fail
  refine (own_Walk O.out eg_5).mono ?_
  rintro e w7 ⟨rfl, ho, _⟩
  replace O := Lib.hid ho
  clear ho
  go_wp2_with fail
  refine (own_Len (m := 2) O.out rfl).mono ?_
  rintro e w' ⟨rfl, rfl⟩
  go_wp2_with fail
  refine (own_Owed O.out eg_6).mono ?_
  rintro e w' ⟨rfl, rfl⟩
  go_wp2_with fail
  refine (own_Next O.out eg_7).mono ?_
  rintro e w8 ⟨rfl, ho, _⟩
  replace O := Lib.hid ho
  clear ho
  go_wp2_with fail
  refine (own_Next O.out eg_8).mono ?_
  rintro e w9 ⟨rfl, ho, _⟩
  replace O := Lib.hid ho
  clear ho
  go_wp2_with fail
  refine (own_Walk O.out eg_9).mono ?_
  rintro e w10 ⟨rfl, ho, _⟩
  replace O := Lib.hid ho
  clear ho
  go_wp2_with fail
  refine (own_Walk O.out eg_10).mono ?_
  rintro e w11 ⟨rfl, ho, _⟩
  replace O := Lib.hid ho
  clear ho
  go_wp2_with fail
  refine (own_Walk O.out eg_11).mono ?_
  rintro e w12 ⟨rfl, ho, _⟩
  replace O := Lib.hid ho
  clear ho
  go_wp2_with fail
  refine (own_Walk O.out eg_12).mono ?_
  rintro e w13 ⟨rfl, ho, _⟩
  replace O := Lib.hid ho
  clear ho
  go_wp2_with fail
  refine (own_Empty _ O.out eg_13).mono ?_
  rintro e w14 ⟨rfl, ho, _⟩
  replace O := Lib.hid ho
  clear ho
  go_wp2_with fail
  go_ret
  exact ⟨rfl, O.out.ext⟩

end Go.Proofs.YtlhajoamebfniaaDoor

/-! commonagelaw17: made. (Printed by wip/gen17m.py.) -/
namespace Go.Proofs.YtlhajoamebfniaaDoor
open Go.RowKit
variable {w0 w w' : World} {c : Conf} {t : Nat}

set_option maxRecDepth 100000 in
set_option maxHeartbeats 8000000 in
theorem law17_made_no {ca ta : Option Addr} {cc tc : Nat} (c : Conf) (tn : Int) {w : World} (hb : bigA c = true ∨ kcheck c ≠ 0) (h : CfgAt w ca ta cc tc c) :
    Calls Tryd.prog 11 #[.agg #[.slice ca c.cl.length cc, .int .i64 c.page, .slice ta c.ts.length tc, .int .i64 c.wk, .int .i64 c.gr, .int .i64 c.gens], .int .u8 tn] w fun e w' => e = .returned (.tuple #[.pointer none, .agg #[.slice none 0 0, .slice none 0 0, .slice none 0 0, .int .i64 0, .slice none 0 0, .int .i64 0, .slice none 0 0, .slice none 0 0, .slice none 0 0, .int .i64 0, .int .i64 0]]) ∧ Ext w w' := by
  obtain ⟨⟨p, q⟩, hpq⟩ : ∃ pq, ktotal c = pq := ⟨_, rfl⟩
  have PQ := Lib.hid hpq
  have HB := Lib.hid hb
  clear hb hpq
  have H := Lib.hid h
  obtain ⟨z, hz⟩ : ∃ z, w.heap.size = z := ⟨_, rfl⟩
  have tw := two17 w [.slice ca c.cl.length cc, .int .i64 c.page, .slice ta c.ts.length tc, .int .i64 c.wk, .int .i64 c.gr, .int .i64 c.gens] gnil 25 33 hz
  obtain ⟨W0, hW0⟩ : ∃ W0, (w.alloc (.cells [Value.slice ca c.cl.length cc, .int .i64 c.page, .slice ta c.ts.length tc, .int .i64 c.wk, .int .i64 c.gr, .int .i64 c.gens].toArray 25)).alloc (.cells gnil.toArray 33) = W0 := ⟨_, rfl⟩
  rw [hW0] at tw
  unfold gnil at tw hW0
  change (w.alloc (.cells #[_, _, _, _, _, _] _)).alloc (.cells #[_, _, _, _, _, _, _, _, _, _, _] _) = W0 at hW0
  have T := Lib.hid tw
  have v0 := tw.b1.c 0 _ rfl; have v1 := tw.b1.c 1 _ rfl; have v2 := tw.b1.c 2 _ rfl; have v3 := tw.b1.c 3 _ rfl; have v4 := tw.b1.c 4 _ rfl; have v5 := tw.b1.c 5 _ rfl
  have bz := tw.lt.1; have bz1 := tw.lt.2
  clear tw h
  go_enter Tryd.func11, Tryd.ntmps11
  go_wp2_with fail
  clear v0 v1 v2 v3 v4 v5 bz bz1
  refine (ref06_Total c p q PQ.out (H.out.ext T.out.ext)).mono ?_
  rintro e w1 ⟨rfl, x⟩
  replace T := Lib.hid (T.out.go x)
  clear x
  have v0 := T.out.b1.c 0 _ rfl; have v1 := T.out.b1.c 1 _ rfl; have v2 := T.out.b1.c 2 _ rfl; have v3 := T.out.b1.c 3 _ rfl; have v4 := T.out.b1.c 4 _ rfl; have v5 := T.out.b1.c 5 _ rfl
  have bz := T.out.lt.1; have bz1 := T.out.lt.2
  go_wp2_with fail
  by_cases hs : c.cl.length ≤ 50 ∧ c.ts.length ≤ 50
  · have HS := Lib.hid (show decide (c.cl.length ≤ 50 ∧ c.ts.length ≤ 50) = true by simpa using hs)
    clear v0 v1 v2 v3 v4 v5 bz bz1
    refine (ref06_Small c true HS.out (H.out.ext T.out.ext)).mono ?_
    rintro e w2 ⟨rfl, x⟩
    replace T := Lib.hid (T.out.go x)
    clear x
    have v0 := T.out.b1.c 0 _ rfl; have v1 := T.out.b1.c 1 _ rfl; have v2 := T.out.b1.c 2 _ rfl; have v3 := T.out.b1.c 3 _ rfl; have v4 := T.out.b1.c 4 _ rfl; have v5 := T.out.b1.c 5 _ rfl
    have bz := T.out.lt.1; have bz1 := T.out.lt.2
    by_cases hp : 4000 < p
    · have tp : decide (4000 < p) = true := decide_eq_true hp
      clear hs hp
      have r0 := T.out.b2.c 0 _ rfl; have r1 := T.out.b2.c 1 _ rfl; have r2 := T.out.b2.c 2 _ rfl; have r3 := T.out.b2.c 3 _ rfl; have r4 := T.out.b2.c 4 _ rfl; have r5 := T.out.b2.c 5 _ rfl; have r6 := T.out.b2.c 6 _ rfl; have r7 := T.out.b2.c 7 _ rfl; have r8 := T.out.b2.c 8 _ rfl; have r9 := T.out.b2.c 9 _ rfl; have r10 := T.out.b2.c 10 _ rfl; have k0 := T.out.b2.f 0; have k1 := T.out.b2.f 1; have k2 := T.out.b2.f 2; have k3 := T.out.b2.f 3; have k4 := T.out.b2.f 4; have k5 := T.out.b2.f 5; have k6 := T.out.b2.f 6; have k7 := T.out.b2.f 7; have k8 := T.out.b2.f 8; have k9 := T.out.b2.f 9; have k10 := T.out.b2.f 10
      go_wp2_with fail
      have hz' := T.out.hz
      obtain ⟨q11, qc11⟩ := (T.out.b2).set11 (.slice none 0 0) (.slice none 0 0) (.slice none 0 0) (.int .i64 0) (.slice none 0 0) (.int .i64 0) (.slice none 0 0) (.slice none 0 0) (.slice none 0 0) (.int .i64 0) (.int .i64 0) _ rfl
      have q0 := q11.c 0 _ rfl; have q1 := q11.c 1 _ rfl; have q2 := q11.c 2 _ rfl; have q3 := q11.c 3 _ rfl; have q4 := q11.c 4 _ rfl; have q5 := q11.c 5 _ rfl; have q6 := q11.c 6 _ rfl; have q7 := q11.c 7 _ rfl; have q8 := q11.c 8 _ rfl; have q9 := q11.c 9 _ rfl; have q10 := q11.c 10 _ rfl
      refine bodyPost_ret (v := .tuple #[.pointer none, .agg #[.slice none 0 0, .slice none 0 0, .slice none 0 0, .int .i64 0, .slice none 0 0, .int .i64 0, .slice none 0 0, .slice none 0 0, .slice none 0 0, .int .i64 0, .int .i64 0]]) (by simp [results, Tryd.results11, go_sem, q0, q1, q2, q3, q4, q5, q6, q7, q8, q9, q10]) rfl ⟨rfl, qc11.over T.out.ext (fun k e => by omega)⟩
    · have tp : decide (4000 < p) = false := decide_eq_false hp
      have H2 := Lib.hid (show kcheck c = 2 by
        rcases HB.out with hb | hb
        · unfold bigA at hb
          rw [PQ.out] at hb
          simp [hs] at hb
          exact absurd hb hp
        · rcases kcheck_01 c with e | e
          · exact absurd e hb
          · exact e)
      clear hs hp
      go_wp2_with fail
      clear v0 v1 v2 v3 v4 v5 bz bz1
      refine (ref06_Check c 2 H2.out (H.out.ext T.out.ext)).mono ?_
      rintro e w3 ⟨rfl, x⟩
      replace T := Lib.hid (T.out.go x)
      clear x
      have v0 := T.out.b1.c 0 _ rfl; have v1 := T.out.b1.c 1 _ rfl; have v2 := T.out.b1.c 2 _ rfl; have v3 := T.out.b1.c 3 _ rfl; have v4 := T.out.b1.c 4 _ rfl; have v5 := T.out.b1.c 5 _ rfl
      have bz := T.out.lt.1; have bz1 := T.out.lt.2
      have r0 := T.out.b2.c 0 _ rfl; have r1 := T.out.b2.c 1 _ rfl; have r2 := T.out.b2.c 2 _ rfl; have r3 := T.out.b2.c 3 _ rfl; have r4 := T.out.b2.c 4 _ rfl; have r5 := T.out.b2.c 5 _ rfl; have r6 := T.out.b2.c 6 _ rfl; have r7 := T.out.b2.c 7 _ rfl; have r8 := T.out.b2.c 8 _ rfl; have r9 := T.out.b2.c 9 _ rfl; have r10 := T.out.b2.c 10 _ rfl; have k0 := T.out.b2.f 0; have k1 := T.out.b2.f 1; have k2 := T.out.b2.f 2; have k3 := T.out.b2.f 3; have k4 := T.out.b2.f 4; have k5 := T.out.b2.f 5; have k6 := T.out.b2.f 6; have k7 := T.out.b2.f 7; have k8 := T.out.b2.f 8; have k9 := T.out.b2.f 9; have k10 := T.out.b2.f 10
      go_wp2_with fail
      have hz' := T.out.hz
      obtain ⟨q11, qc11⟩ := (T.out.b2).set11 (.slice none 0 0) (.slice none 0 0) (.slice none 0 0) (.int .i64 0) (.slice none 0 0) (.int .i64 0) (.slice none 0 0) (.slice none 0 0) (.slice none 0 0) (.int .i64 0) (.int .i64 0) _ rfl
      have q0 := q11.c 0 _ rfl; have q1 := q11.c 1 _ rfl; have q2 := q11.c 2 _ rfl; have q3 := q11.c 3 _ rfl; have q4 := q11.c 4 _ rfl; have q5 := q11.c 5 _ rfl; have q6 := q11.c 6 _ rfl; have q7 := q11.c 7 _ rfl; have q8 := q11.c 8 _ rfl; have q9 := q11.c 9 _ rfl; have q10 := q11.c 10 _ rfl
      refine bodyPost_ret (v := .tuple #[.pointer none, .agg #[.slice none 0 0, .slice none 0 0, .slice none 0 0, .int .i64 0, .slice none 0 0, .int .i64 0, .slice none 0 0, .slice none 0 0, .slice none 0 0, .int .i64 0, .int .i64 0]]) (by simp [results, Tryd.results11, go_sem, q0, q1, q2, q3, q4, q5, q6, q7, q8, q9, q10]) rfl ⟨rfl, qc11.over T.out.ext (fun k e => by omega)⟩
  · have HS := Lib.hid (show decide (c.cl.length ≤ 50 ∧ c.ts.length ≤ 50) = false by simpa using hs)
    clear hs
    clear v0 v1 v2 v3 v4 v5 bz bz1
    refine (ref06_Small c false HS.out (H.out.ext T.out.ext)).mono ?_
    rintro e w2 ⟨rfl, x⟩
    replace T := Lib.hid (T.out.go x)
    clear x
    have v0 := T.out.b1.c 0 _ rfl; have v1 := T.out.b1.c 1 _ rfl; have v2 := T.out.b1.c 2 _ rfl; have v3 := T.out.b1.c 3 _ rfl; have v4 := T.out.b1.c 4 _ rfl; have v5 := T.out.b1.c 5 _ rfl
    have bz := T.out.lt.1; have bz1 := T.out.lt.2
    have r0 := T.out.b2.c 0 _ rfl; have r1 := T.out.b2.c 1 _ rfl; have r2 := T.out.b2.c 2 _ rfl; have r3 := T.out.b2.c 3 _ rfl; have r4 := T.out.b2.c 4 _ rfl; have r5 := T.out.b2.c 5 _ rfl; have r6 := T.out.b2.c 6 _ rfl; have r7 := T.out.b2.c 7 _ rfl; have r8 := T.out.b2.c 8 _ rfl; have r9 := T.out.b2.c 9 _ rfl; have r10 := T.out.b2.c 10 _ rfl; have k0 := T.out.b2.f 0; have k1 := T.out.b2.f 1; have k2 := T.out.b2.f 2; have k3 := T.out.b2.f 3; have k4 := T.out.b2.f 4; have k5 := T.out.b2.f 5; have k6 := T.out.b2.f 6; have k7 := T.out.b2.f 7; have k8 := T.out.b2.f 8; have k9 := T.out.b2.f 9; have k10 := T.out.b2.f 10
    go_wp2_with fail
    have hz' := T.out.hz
    obtain ⟨q11, qc11⟩ := (T.out.b2).set11 (.slice none 0 0) (.slice none 0 0) (.slice none 0 0) (.int .i64 0) (.slice none 0 0) (.int .i64 0) (.slice none 0 0) (.slice none 0 0) (.slice none 0 0) (.int .i64 0) (.int .i64 0) _ rfl
    have q0 := q11.c 0 _ rfl; have q1 := q11.c 1 _ rfl; have q2 := q11.c 2 _ rfl; have q3 := q11.c 3 _ rfl; have q4 := q11.c 4 _ rfl; have q5 := q11.c 5 _ rfl; have q6 := q11.c 6 _ rfl; have q7 := q11.c 7 _ rfl; have q8 := q11.c 8 _ rfl; have q9 := q11.c 9 _ rfl; have q10 := q11.c 10 _ rfl
    refine bodyPost_ret (v := .tuple #[.pointer none, .agg #[.slice none 0 0, .slice none 0 0, .slice none 0 0, .int .i64 0, .slice none 0 0, .int .i64 0, .slice none 0 0, .slice none 0 0, .slice none 0 0, .int .i64 0, .int .i64 0]]) (by simp [results, Tryd.results11, go_sem, q0, q1, q2, q3, q4, q5, q6, q7, q8, q9, q10]) rfl ⟨rfl, qc11.over T.out.ext (fun k e => by omega)⟩

theorem DPlan.ne {lb fb mb x : Nat} {ca : Option Addr} (h : DPlan w lb fb mb ca c t) (hc : w.cell? ⟨x, 0, none⟩ = some (.slice none 0 0)) : lb ≠ x ∧ fb ≠ x ∧ mb ≠ x := by
  have hs := h.ok.nS_pos h.ti
  have hg := h.ok.nG_pos h.ti
  refine ⟨?_, ?_, ?_⟩
  · rintro rfl
    have := h.l 0 (by omega) 0 _ rfl
    rw [Nat.zero_mul, Nat.add_zero, hc] at this; cases this
  · rintro rfl
    obtain ⟨b, o, e, hc'⟩ := h.f 0 (by simp [firsts]; omega)
    cases e
    rw [Nat.zero_add, hc] at hc'; cases hc'
  · rintro rfl
    obtain ⟨b, o, e, hc'⟩ := h.m 0 (by simp [manys]; omega)
    cases e
    rw [Nat.zero_add, hc] at hc'; cases hc'
/-- What made hands back where there is a grey. -/
def MadeG (c : Conf) (t n : Nat) (w : World) (e : Ending) (w' : World) : Prop :=
  ∃ b pb gp ob og db dg rg V, e = .returned (.tuple #[.pointer (some ⟨b, 0, none⟩), .agg V.toArray]) ∧ OwnG w w' b pb gp ob og db dg rg c t n (clearG c t) ∧ DGr (grB b og dg rg) w' c t n V (clearG c t)

set_option maxRecDepth 100000 in
set_option maxHeartbeats 8000000 in
theorem law17_made {ca ta : Option Addr} {cc tc i n : Nat} (c : Conf) (tn : Int) {w : World} (hT : Tab w) (hb : bigA c = false) (h0 : kcheck c = 0) (htn : 0 ≤ tn ∧ tn ≤ 255) (hi : i < c.ts.length) (hmod : tn % (c.ts.length : Int) = i) (hgr : c.gr = n) (h : CfgAt w ca ta cc tc c) :
    Calls Tryd.prog 11 #[.agg #[.slice ca c.cl.length cc, .int .i64 c.page, .slice ta c.ts.length tc, .int .i64 c.wk, .int .i64 c.gr, .int .i64 c.gens], .int .u8 tn] w (MadeG c i n w) := by
  have HT := Lib.hid hT
  have ho := kcheck_ok h0
  have hgn : 1 ≤ n ∧ n ≤ 64 := by have := ho.head.2.2.2.2.2.2.1; have := ho.head.2.2.2.2.2.2.2.1; omega
  have t1 := ho.head.2.2.1
  have t8 := ho.head.2.2.2.1
  obtain ⟨t0, t255⟩ := htn
  have n0 : ¬ c.ts.length = 0 := by omega
  have nz : ¬ (c.ts.length : Int) = 0 := by omega
  have hmt : tn.tmod c.ts.length = i := by rw [Int.tmod_eq_emod_of_nonneg t0]; exact hmod
  have hwi : IntKind.i64.wrap (i : Int) = i := IntWalk.i64_in _ (by omega)
  have hwt : IntKind.i64.wrap tn = tn := IntWalk.i64_in _ (by omega)
  obtain ⟨⟨p, q⟩, hpq⟩ : ∃ pq, ktotal c = pq := ⟨_, rfl⟩
  have hs : c.cl.length ≤ 50 ∧ c.ts.length ≤ 50 ∧ ¬ 4000 < p := by
    unfold bigA at hb
    rw [hpq] at hb
    simp at hb
    omega
  have PQ := Lib.hid hpq
  have HS := Lib.hid (show decide (c.cl.length ≤ 50 ∧ c.ts.length ≤ 50) = true from decide_eq_true ⟨hs.1, hs.2.1⟩)
  have tp : decide (4000 < p) = false := decide_eq_false hs.2.2
  have H0 := Lib.hid h0; have HI := Lib.hid hi; have HG := Lib.hid hgr
  clear hT ho h0 hb hpq hs hgr
  have H := Lib.hid h
  obtain ⟨z, hz⟩ : ∃ z, w.heap.size = z := ⟨_, rfl⟩
  have tw := two17 w [.slice ca c.cl.length cc, .int .i64 c.page, .slice ta c.ts.length tc, .int .i64 c.wk, .int .i64 c.gr, .int .i64 c.gens] gnil 25 33 hz
  obtain ⟨W0, hW0⟩ : ∃ W0, (w.alloc (.cells [Value.slice ca c.cl.length cc, .int .i64 c.page, .slice ta c.ts.length tc, .int .i64 c.wk, .int .i64 c.gr, .int .i64 c.gens].toArray 25)).alloc (.cells gnil.toArray 33) = W0 := ⟨_, rfl⟩
  rw [hW0] at tw
  unfold gnil at tw hW0
  change (w.alloc (.cells #[_, _, _, _, _, _] _)).alloc (.cells #[_, _, _, _, _, _, _, _, _, _, _] _) = W0 at hW0
  have T := Lib.hid tw
  have v0 := tw.b1.c 0 _ rfl; have v1 := tw.b1.c 1 _ rfl; have v2 := tw.b1.c 2 _ rfl; have v3 := tw.b1.c 3 _ rfl; have v4 := tw.b1.c 4 _ rfl; have v5 := tw.b1.c 5 _ rfl
  have bz := tw.lt.1; have bz1 := tw.lt.2
  clear tw h
  go_enter Tryd.func11, Tryd.ntmps11
  go_wp2_with fail
  clear v0 v1 v2 v3 v4 v5 bz bz1
  refine (ref06_Total c p q PQ.out (H.out.ext T.out.ext)).mono ?_
  rintro e w1 ⟨rfl, x⟩
  replace T := Lib.hid (T.out.go x)
  clear x
  have v0 := T.out.b1.c 0 _ rfl; have v1 := T.out.b1.c 1 _ rfl; have v2 := T.out.b1.c 2 _ rfl; have v3 := T.out.b1.c 3 _ rfl; have v4 := T.out.b1.c 4 _ rfl; have v5 := T.out.b1.c 5 _ rfl
  have bz := T.out.lt.1; have bz1 := T.out.lt.2
  go_wp2_with fail
  clear v0 v1 v2 v3 v4 v5 bz bz1
  refine (ref06_Small c true HS.out (H.out.ext T.out.ext)).mono ?_
  rintro e w2 ⟨rfl, x⟩
  replace T := Lib.hid (T.out.go x)
  clear x
  have v0 := T.out.b1.c 0 _ rfl; have v1 := T.out.b1.c 1 _ rfl; have v2 := T.out.b1.c 2 _ rfl; have v3 := T.out.b1.c 3 _ rfl; have v4 := T.out.b1.c 4 _ rfl; have v5 := T.out.b1.c 5 _ rfl
  have bz := T.out.lt.1; have bz1 := T.out.lt.2
  go_wp2_with fail
  clear v0 v1 v2 v3 v4 v5 bz bz1
  refine (ref06_Check c 0 H0.out (H.out.ext T.out.ext)).mono ?_
  rintro e w3 ⟨rfl, x⟩
  replace T := Lib.hid (T.out.go x)
  clear x
  have v0 := T.out.b1.c 0 _ rfl; have v1 := T.out.b1.c 1 _ rfl; have v2 := T.out.b1.c 2 _ rfl; have v3 := T.out.b1.c 3 _ rfl; have v4 := T.out.b1.c 4 _ rfl; have v5 := T.out.b1.c 5 _ rfl
  have bz := T.out.lt.1; have bz1 := T.out.lt.2
  go_wp2_with fail
  clear v0 v1 v2 v3 v4 v5 bz bz1
  refine (slot_New c i H0.out HI.out (H.out.ext T.out.ext)).mono ?_
  rintro e w4 ⟨pb, gp, rfl, hp, x⟩
  have HP := Lib.hid hp
  replace T := Lib.hid (T.out.go x)
  clear x hp
  have v0 := T.out.b1.c 0 _ rfl; have v1 := T.out.b1.c 1 _ rfl; have v2 := T.out.b1.c 2 _ rfl; have v3 := T.out.b1.c 3 _ rfl; have v4 := T.out.b1.c 4 _ rfl; have v5 := T.out.b1.c 5 _ rfl
  have bz := T.out.lt.1; have bz1 := T.out.lt.2
  go_wp2_with fail
  clear v0 v1 v2 v3 v4 v5 bz bz1
  refine (ref09_NewC c i H0.out HI.out (H.out.ext T.out.ext)).mono ?_
  rintro e w5 ⟨lb, lc, fb, fc, mb, mc, rfl, hd, x⟩
  have HD := Lib.hid hd
  replace HP := Lib.hid (HP.out.ext x)
  replace T := Lib.hid (T.out.go x)
  clear x hd
  have v0 := T.out.b1.c 0 _ rfl; have v1 := T.out.b1.c 1 _ rfl; have v2 := T.out.b1.c 2 _ rfl; have v3 := T.out.b1.c 3 _ rfl; have v4 := T.out.b1.c 4 _ rfl; have v5 := T.out.b1.c 5 _ rfl
  have bz := T.out.lt.1; have bz1 := T.out.lt.2
  unfold dpv
  go_wp2_with fail
  obtain ⟨y, hy⟩ : ∃ y, w5.heap.size = y := ⟨_, rfl⟩
  obtain ⟨W6, hW6⟩ : ∃ W, w5.alloc (.cells #[.slice (some ⟨lb, 0, none⟩) (nS c i) lc, .slice (some ⟨fb, 0, none⟩) (nG c i) fc, .slice (some ⟨mb, 0, none⟩) (nG c i) mc, .int .i64 (wordsOf c i), .slice ca c.cl.length cc] 30) = W := ⟨_, rfl⟩
  have x6 : Ext w5 W6 := by rw [← hW6]; exact (Ext.refl _).alloc _
  have PB : Hid (BoxG W6 y [.slice (some ⟨lb, 0, none⟩) (nS c i) lc, .slice (some ⟨fb, 0, none⟩) (nG c i) fc, .slice (some ⟨mb, 0, none⟩) (nG c i) mc, .int .i64 (wordsOf c i), .slice ca c.cl.length cc]) := Lib.hid (by rw [← hW6]; exact BoxG.new w5 _ _ hy)
  have KL : Hid (∀ y o, ca = some ⟨y, o, none⟩ → y < w.heap.size) := Lib.hid fun y o e => by
    obtain ⟨b', o', e', hc⟩ := H.out.cl 0 (kcheck_ok H0.out).cl.pos
    rw [e] at e'; cases e'
    exact cell_lt hc
  rw [hW6, hy, HG.out]
  replace HP := Lib.hid (HP.out.ext x6); replace HD := Lib.hid (HD.out.ext x6)
  replace T := Lib.hid (T.out.go x6)
  clear x6 hW6 hy v0 v1 v2 v3 v4 v5 bz bz1
  refine (own_New (w0 := w) HP.out hgn (HT.out.ext T.out.ext) T.out.ext).mono ?_
  rintro e w7 ⟨b, ob, og, db, dg, rg, rfl, ho, x, l1, l2, l3, l4⟩
  have LT : Hid (lb < W6.heap.size ∧ fb < W6.heap.size ∧ mb < W6.heap.size ∧ ∀ x o, ca = some ⟨x, o, none⟩ → x < W6.heap.size) := Lib.hid HD.out.lt
  have LB := Lib.hid (show W6.heap.size ≤ b ∧ W6.heap.size ≤ og ∧ W6.heap.size ≤ dg ∧ W6.heap.size ≤ rg from ⟨l1, l2, l3, l4⟩)
  have O := Lib.hid ho
  have D7 := Lib.hid (HD.out.ext x)
  have zl := Lib.hid T.out.lt.2
  replace T := Lib.hid (T.out.go x)
  have p7 := PB.out.ext x
  have p0 := p7.c 0 _ rfl; have p1 := p7.c 1 _ rfl; have p2 := p7.c 2 _ rfl; have p3 := p7.c 3 _ rfl; have p4 := p7.c 4 _ rfl
  have v4 := T.out.b1.c 4 _ rfl
  have bz := T.out.lt.1; have bz1 := T.out.lt.2
  clear ho l1 l2 l3 l4 x p7
  go_wp2_with fail
  rw [HG.out]
  have hn1 := D7.out.ne (T.out.b2.c 0 _ rfl)
  have CN := Lib.hid (ref17_New (P := fun k => grB b og dg rg k ∨ k = z + 1) (lc := lc) (fc := fc) (mc := mc) (cc := cc) D7.out hgn (fun k hk => by
      obtain ⟨f, hf⟩ := O.out.gr
      have h1 := hf.lt
      have h2 := T.out.lt.2
      unfold grB at hk
      omega) (by have h1 := LT.out; have h2 := LB.out; unfold grB; omega) (fun x o e hk => by
      have h1 := LT.out.2.2.2 x o e; have h2 := LB.out; have h3 := KL.out x o e; have h4 := T.out.hz; unfold grB at hk; omega))
  unfold dpv at CN
  clear p0 p1 p2 p3 p4 v4 bz bz1 hn1
  refine CN.out.mono ?_
  rintro e w8 ⟨V, rfl, hdn, x⟩
  obtain ⟨lb', lc', fb', fc', mb', mc', ca', cc', qa, qc, oa, oc, da, dc, pg, a, rfl, hdg⟩ := hdn
  have DG := Lib.hid hdg
  replace O := Lib.hid (O.out.go x)
  replace T := Lib.hid (T.out.go x)
  clear hdg x CN
  have r0 := T.out.b2.c 0 _ rfl; have r1 := T.out.b2.c 1 _ rfl; have r2 := T.out.b2.c 2 _ rfl; have r3 := T.out.b2.c 3 _ rfl; have r4 := T.out.b2.c 4 _ rfl; have r5 := T.out.b2.c 5 _ rfl; have r6 := T.out.b2.c 6 _ rfl; have r7 := T.out.b2.c 7 _ rfl; have r8 := T.out.b2.c 8 _ rfl; have r9 := T.out.b2.c 9 _ rfl; have r10 := T.out.b2.c 10 _ rfl; have k0 := T.out.b2.f 0; have k1 := T.out.b2.f 1; have k2 := T.out.b2.f 2; have k3 := T.out.b2.f 3; have k4 := T.out.b2.f 4; have k5 := T.out.b2.f 5; have k6 := T.out.b2.f 6; have k7 := T.out.b2.f 7; have k8 := T.out.b2.f 8; have k9 := T.out.b2.f 9; have k10 := T.out.b2.f 10
  have bz := T.out.lt.1; have bz1 := T.out.lt.2
  unfold gvs
  go_wp2_with fail
  have lq : (clearG c i).q.length = 0 := rfl
  obtain ⟨q11, qc11⟩ := (T.out.b2).set11 (.slice (some ⟨lb', 0, none⟩) (nS c i) lc') (.slice (some ⟨fb', 0, none⟩) (nG c i) fc') (.slice (some ⟨mb', 0, none⟩) (nG c i) mc') (.int .i64 (wordsOf c i)) (.slice ca' c.cl.length cc') (.int .i64 n) (.slice qa (clearG c i).q.length qc) (.slice oa (clearG c i).ow.length oc) (.slice da (clearG c i).di.length dc) (.int .i64 pg) (.int .i64 a) _ rfl
  have q0 := q11.c 0 _ rfl; have q1 := q11.c 1 _ rfl; have q2 := q11.c 2 _ rfl; have q3 := q11.c 3 _ rfl; have q4 := q11.c 4 _ rfl; have q5 := q11.c 5 _ rfl; have q6 := q11.c 6 _ rfl; have q7 := q11.c 7 _ rfl; have q8 := q11.c 8 _ rfl; have q9 := q11.c 9 _ rfl; have q10 := q11.c 10 _ rfl
  have hz' := T.out.hz
  refine bodyPost_ret (v := .tuple #[.pointer (some ⟨b, 0, none⟩), .agg #[.slice (some ⟨lb', 0, none⟩) (nS c i) lc', .slice (some ⟨fb', 0, none⟩) (nG c i) fc', .slice (some ⟨mb', 0, none⟩) (nG c i) mc', .int .i64 (wordsOf c i), .slice ca' c.cl.length cc', .int .i64 n, .slice qa (clearG c i).q.length qc, .slice oa (clearG c i).ow.length oc, .slice da (clearG c i).di.length dc, .int .i64 pg, .int .i64 a]]) (by simp [results, Tryd.results11, go_sem, q0, q1, q2, q3, q4, q5, q6, q7, q8, q9, q10]) rfl
    ⟨b, pb, gp, ob, og, db, dg, rg, _, rfl, O.out.far (T.out.b2.c 0 _ rfl) qc11 (by omega), lb', lc', fb', fc', mb', mc', ca', cc', qa, qc, oa, oc, da, dc, pg, a, rfl, (DG.out.chg qc11 (fun k e => .inr e)).mono fun k e => .inl e⟩

end Go.Proofs.YtlhajoamebfniaaDoor

/-! commonagelaw17: does. (Printed by wip/gen17d.py.) -/
namespace Go.Proofs.YtlhajoamebfniaaDoor
open Go.RowKit
variable {w0 w w' : World} {b pb gp ob og db dg rg : Nat} {c : Conf} {t n f : Nat} {g g' gd : GS}

/-- The three boxes of a call. -/
structure Tri17 (W : World) (z : Nat) (V X U : List Value) : Prop where
  b1 : BoxG W z V
  b2 : BoxG W (z + 1) X
  b3 : BoxG W (z + 1 + 1) U
section
variable {W W' : World} {z : Nat} {V X U : List Value}
theorem tri17 (w : World) (V X U : List Value) (u1 u2 u3 : TypeId) {z : Nat} (hz : w.heap.size = z) :
    Tri17 (((w.alloc (.cells V.toArray u1)).alloc (.cells X.toArray u2)).alloc (.cells U.toArray u3)) z V X U ∧ Ext w (((w.alloc (.cells V.toArray u1)).alloc (.cells X.toArray u2)).alloc (.cells U.toArray u3)) := by
  refine ⟨⟨(BoxG.new w V u1 hz).ext (((Ext.refl _).alloc _).alloc _), (BoxG.new _ X u2 (by simp [hz])).ext ((Ext.refl _).alloc _), BoxG.new _ U u3 (by simp [hz])⟩, (((Ext.refl w).alloc _).alloc _).alloc _⟩
theorem Tri17.go (h : Tri17 W z V X U) (hx : Ext W W') : Tri17 W' z V X U := ⟨h.b1.ext hx, h.b2.ext hx, h.b3.ext hx⟩
theorem Tri17.chg {Q : Nat → Prop} (h : Tri17 W z V X U) (hx : Chg Q W W') (hq : ∀ k, Q k → k < z) : Tri17 W' z V X U :=
  ⟨h.b1.chg hx (fun q => by have := hq _ q; omega), h.b2.chg hx (fun q => by have := hq _ q; omega), h.b3.chg hx (fun q => by have := hq _ q; omega)⟩
theorem Tri17.lt (h : Tri17 W z V X U) : z < W.heap.size ∧ z + 1 < W.heap.size ∧ z + 1 + 1 < W.heap.size := ⟨h.b1.lt, h.b2.lt, h.b3.lt⟩
end
/-- What an act leaves. -/
def actG (c : Conf) (t n : Nat) (g : GS) (wh s : Int) : GS :=
  if wh % 5 = 2 then (nextG g).1 else if wh % 5 = 3 then (walkG c t g).1 else if wh % 5 = 4 then (if s = 0 then clearG c t else g) else (putG c t n g s).1

theorem actG_2 {wh s : Int} (h : wh % 5 = 2) (g : GS) : actG c t n g wh s = (nextG g).1 := by unfold actG; rw [if_pos h]
theorem actG_3 {wh s : Int} (h : wh % 5 = 3) (g : GS) : actG c t n g wh s = (walkG c t g).1 := by unfold actG; rw [if_neg (by omega), if_pos h]
theorem actG_40 {wh : Int} (h : wh % 5 = 4) (g : GS) : actG c t n g wh 0 = clearG c t := by unfold actG; rw [if_neg (by omega), if_neg (by omega), if_pos h, if_pos rfl]
theorem actG_4 {wh s : Int} (h : wh % 5 = 4) (hs : s ≠ 0) (g : GS) : actG c t n g wh s = g := by unfold actG; rw [if_neg (by omega), if_neg (by omega), if_pos h, if_neg hs]
theorem actG_0 {wh s y : Int} (h : wh % 5 = y) (h2 : y ≠ 2) (h3 : y ≠ 3) (h4 : y ≠ 4) (g : GS) : actG c t n g wh s = (putG c t n g s).1 := by unfold actG; rw [if_neg (by omega), if_neg (by omega), if_neg (by omega)]

set_option maxRecDepth 100000 in
set_option maxHeartbeats 16000000 in
theorem law17_does {P : Nat → Prop} {V : List Value} {wh s : Int} (hwh : 0 ≤ wh ∧ wh ≤ 255) (h : OwnG w0 w b pb gp ob og db dg rg c t n g) (hd : DGr P w c t n V gd) (hA : ∀ k, grB b og dg rg k → P k) (hP : ∀ k, P k → k < w.heap.size) :
    Calls Tryd.prog 36 #[.pointer (some ⟨b, 0, none⟩), .agg V.toArray, .agg #[.int .u8 wh, .int .i64 s]] w fun e w' => ∃ V' r, e = .returned (.tuple #[.agg V'.toArray, .bool r]) ∧ (g = gd → r = true) ∧ OwnG w0 w' b pb gp ob og db dg rg c t n (actG c t n g wh s) ∧ DGr P w' c t n V' (actG c t n gd wh s) ∧ Chg (grB b og dg rg) w w' := by
  obtain ⟨lb, lc, fb, fc, mb, mc, ca, cc, qa, qc, oa, oc, da, dc, pg, a, rfl, hd⟩ := hd
  have H := Lib.hid h; have HD := Lib.hid hd
  unfold gvs
  obtain ⟨z, hz⟩ : ∃ z, w.heap.size = z := ⟨_, rfl⟩
  have tw := tri17 w [.slice (some ⟨lb, 0, none⟩) (nS c t) lc, .slice (some ⟨fb, 0, none⟩) (nG c t) fc, .slice (some ⟨mb, 0, none⟩) (nG c t) mc, .int .i64 (wordsOf c t), .slice ca c.cl.length cc, .int .i64 n, .slice qa gd.q.length qc, .slice oa gd.ow.length oc, .slice da gd.di.length dc, .int .i64 pg, .int .i64 a] [.int .u8 wh, .int .i64 s] gnil 33 38 33 hz
  obtain ⟨W0, hW0⟩ : ∃ W0, ((w.alloc (.cells [Value.slice (some ⟨lb, 0, none⟩) (nS c t) lc, .slice (some ⟨fb, 0, none⟩) (nG c t) fc, .slice (some ⟨mb, 0, none⟩) (nG c t) mc, .int .i64 (wordsOf c t), .slice ca c.cl.length cc, .int .i64 n, .slice qa gd.q.length qc, .slice oa gd.ow.length oc, .slice da gd.di.length dc, .int .i64 pg, .int .i64 a].toArray 33)).alloc (.cells [Value.int .u8 wh, .int .i64 s].toArray 38)).alloc (.cells gnil.toArray 33) = W0 := ⟨_, rfl⟩
  rw [hW0] at tw
  unfold gnil at tw hW0
  change ((w.alloc (.cells #[_, _, _, _, _, _, _, _, _, _, _] _)).alloc (.cells #[_, _] _)).alloc (.cells #[_, _, _, _, _, _, _, _, _, _, _] _) = W0 at hW0
  have T := Lib.hid tw.1
  have HZ := Lib.hid hz
  have X0 := Lib.hid tw.2
  have GL : Hid (∀ k, grB b og dg rg k → k < z) := Lib.hid fun k hk => by
    obtain ⟨f, hf⟩ := h.gr
    have := hf.lt
    unfold grB at hk
    omega
  have PZ : Hid (∀ k, P k → k < z) := Lib.hid fun k hk => by have := hP k hk; omega
  have PA := Lib.hid hA
  have D : Hid (DGrey (fun k => P k ∨ k = z + 1 + 1) W0 lb fb mb ca c t n qa qc oa da gd pg a) := Lib.hid ((hd.widen.ext tw.2).mono fun k hk => by rcases hk with hk | hk; exact .inl hk; exact .inr (by omega))
  have LO := Lib.hid (show w0.heap.size ≤ z by have := h.ext.size; omega)
  have O := Lib.hid (h.go tw.2)
  have C : Hid (Chg (grB b og dg rg) w W0) := Lib.hid (Chg.of_ext tw.2)
  have v0 := tw.1.b1.c 0 _ rfl; have v1 := tw.1.b1.c 1 _ rfl; have v2 := tw.1.b1.c 2 _ rfl; have v3 := tw.1.b1.c 3 _ rfl; have v4 := tw.1.b1.c 4 _ rfl; have v5 := tw.1.b1.c 5 _ rfl; have v6 := tw.1.b1.c 6 _ rfl; have v7 := tw.1.b1.c 7 _ rfl; have v8 := tw.1.b1.c 8 _ rfl; have v9 := tw.1.b1.c 9 _ rfl; have v10 := tw.1.b1.c 10 _ rfl; have a0 := tw.1.b2.c 0 _ rfl; have a1 := tw.1.b2.c 1 _ rfl
  have bz := tw.1.lt.1; have bz1 := tw.1.lt.2.1; have bz2 := tw.1.lt.2.2
  have hw0 := Int.emod_nonneg wh (show (5 : Int) ≠ 0 by decide)
  have hw1 := Int.emod_lt_of_pos wh (show (0 : Int) < 5 by decide)
  obtain ⟨y, hy⟩ : ∃ y, wh % 5 = y := ⟨_, rfl⟩
  rw [hy] at hw0 hw1
  clear tw h hd hA hP
  show Calls _ _ #[_, .agg #[_, _, _, _, _, _, _, _, _, _, _], _] _ _
  have HY := Lib.hid hy
  rcases (show y = 2 ∨ y = 3 ∨ y = 4 ∨ (y ≠ 2 ∧ y ≠ 3 ∧ y ≠ 4) by omega) with rfl | rfl | rfl | ⟨y2, y3, y4⟩
  · obtain ⟨g1, x1, i1, hg⟩ : ∃ g1 x1 i1, nextG g = (g1, x1, i1) := ⟨_, _, _, rfl⟩
    obtain ⟨g2, x2, i2, hg2⟩ : ∃ g2 x2 i2, nextG gd = (g2, x2, i2) := ⟨_, _, _, rfl⟩
    have G1 := Lib.hid hg; have G2 := Lib.hid hg2
    rw [actG_2 hy, actG_2 hy, hg, hg2]
    clear hg hg2
    go_enter Tryd.func36, Tryd.ntmps36
    go_wp2_with fail
    clear v0 v1 v2 v3 v4 v5 v6 v7 v8 v9 v10 a0 a1 bz bz1 bz2
    refine (own_Next O.out G1.out).mono ?_
    rintro e wA ⟨rfl, ho, hc⟩
    replace O := Lib.hid ho
    replace T := Lib.hid (T.out.chg hc GL.out)
    replace D := Lib.hid (D.out.chg hc fun k hk => .inl (PA.out k hk))
    replace C := Lib.hid (C.out.trans hc)
    clear ho hc
    have v0 := T.out.b1.c 0 _ rfl; have v1 := T.out.b1.c 1 _ rfl; have v2 := T.out.b1.c 2 _ rfl; have v3 := T.out.b1.c 3 _ rfl; have v4 := T.out.b1.c 4 _ rfl; have v5 := T.out.b1.c 5 _ rfl; have v6 := T.out.b1.c 6 _ rfl; have v7 := T.out.b1.c 7 _ rfl; have v8 := T.out.b1.c 8 _ rfl; have v9 := T.out.b1.c 9 _ rfl; have v10 := T.out.b1.c 10 _ rfl; have a0 := T.out.b2.c 0 _ rfl; have a1 := T.out.b2.c 1 _ rfl
    have bz := T.out.lt.1; have bz1 := T.out.lt.2.1; have bz2 := T.out.lt.2.2
    go_wp2_with fail
    clear v0 v1 v2 v3 v4 v5 v6 v7 v8 v9 v10 a0 a1 bz bz1 bz2
    have CD := ref17_Next (lc := lc) (fc := fc) (mc := mc) (cc := cc) (oc := oc) (dc := dc) D.out (fun k hk => by have h1 := T.out.lt; rcases hk with hk | hk; exact Nat.lt_trans (PZ.out k hk) (by omega); omega) G2.out
    unfold gvs at CD
    refine CD.mono ?_
    rintro e wB ⟨V, rfl, hv, x⟩
    clear CD
    obtain ⟨lb', lc', fb', fc', mb', mc', ca', cc', qa', qc', oa', oc', da', dc', pg', a', rfl, hdn⟩ := hv
    have DN := Lib.hid hdn
    replace O := Lib.hid (O.out.go x)
    replace T := Lib.hid (T.out.go x)
    replace C := Lib.hid (C.out.trans (Chg.of_ext x))
    clear hdn x
    have bz := T.out.lt.1; have bz1 := T.out.lt.2.1; have bz2 := T.out.lt.2.2
    have r0 := T.out.b3.c 0 _ rfl; have r1 := T.out.b3.c 1 _ rfl; have r2 := T.out.b3.c 2 _ rfl; have r3 := T.out.b3.c 3 _ rfl; have r4 := T.out.b3.c 4 _ rfl; have r5 := T.out.b3.c 5 _ rfl; have r6 := T.out.b3.c 6 _ rfl; have r7 := T.out.b3.c 7 _ rfl; have r8 := T.out.b3.c 8 _ rfl; have r9 := T.out.b3.c 9 _ rfl; have r10 := T.out.b3.c 10 _ rfl; have k0 := T.out.b3.f 0; have k1 := T.out.b3.f 1; have k2 := T.out.b3.f 2; have k3 := T.out.b3.f 3; have k4 := T.out.b3.f 4; have k5 := T.out.b3.f 5; have k6 := T.out.b3.f 6; have k7 := T.out.b3.f 7; have k8 := T.out.b3.f 8; have k9 := T.out.b3.f 9; have k10 := T.out.b3.f 10
    unfold gvs
    have bn := T.out.lt
    have tr : g = gd → (decide (x1 = x2) && (i1 == i2)) = true := by
      rintro rfl
      have := G1.out.symm.trans G2.out
      injection this with e1 e2; injection e2 with e2 e3
      subst e2 e3; simp
    have TR := Lib.hid tr
    clear tr hwh hw0 hw1
    cases e1 : (x1 == x2)
    all_goals
      have ed : decide (x1 = x2) = _ := e1
      go_wp2_with fail
      obtain ⟨q11, qc11⟩ := T.out.b3.set11 (.slice (some ⟨lb', 0, none⟩) (nS c t) lc') (.slice (some ⟨fb', 0, none⟩) (nG c t) fc') (.slice (some ⟨mb', 0, none⟩) (nG c t) mc') (.int .i64 (wordsOf c t)) (.slice ca' c.cl.length cc') (.int .i64 n) (.slice qa' g2.q.length qc') (.slice oa' g2.ow.length oc') (.slice da' g2.di.length dc') (.int .i64 pg') (.int .i64 a') _ rfl
      have b9 := q11.ext ((Ext.refl _).alloc (.cells #[.slice (some ⟨lb', 0, none⟩) (nS c t) lc', .slice (some ⟨fb', 0, none⟩) (nG c t) fc', .slice (some ⟨mb', 0, none⟩) (nG c t) mc', .int .i64 (wordsOf c t), .slice ca' c.cl.length cc', .int .i64 n, .slice qa' g2.q.length qc', .slice oa' g2.ow.length oc', .slice da' g2.di.length dc', .int .i64 pg', .int .i64 a'] 33))
      have q0 := b9.c 0 _ rfl; have q1 := b9.c 1 _ rfl; have q2 := b9.c 2 _ rfl; have q3 := b9.c 3 _ rfl; have q4 := b9.c 4 _ rfl; have q5 := b9.c 5 _ rfl; have q6 := b9.c 6 _ rfl; have q7 := b9.c 7 _ rfl; have q8 := b9.c 8 _ rfl; have q9 := b9.c 9 _ rfl; have q10 := b9.c 10 _ rfl
      have kk9 := qc11.trans (Chg.of_ext ((Ext.refl _).alloc (.cells #[.slice (some ⟨lb', 0, none⟩) (nS c t) lc', .slice (some ⟨fb', 0, none⟩) (nG c t) fc', .slice (some ⟨mb', 0, none⟩) (nG c t) mc', .int .i64 (wordsOf c t), .slice ca' c.cl.length cc', .int .i64 n, .slice qa' g2.q.length qc', .slice oa' g2.ow.length oc', .slice da' g2.di.length dc', .int .i64 pg', .int .i64 a'] 33)))
      clear r0 r1 r2 r3 r4 r5 r6 r7 r8 r9 r10 k0 k1 k2 k3 k4 k5 k6 k7 k8 k9 k10 bz bz1 bz2
      have lo := LO.out
      have zz := HZ.out
      have o3 := O.out.far (T.out.b3.c 0 _ rfl) kk9 (by omega)
      refine bodyPost_ret (v := .tuple #[.agg #[.slice (some ⟨lb', 0, none⟩) (nS c t) lc', .slice (some ⟨fb', 0, none⟩) (nG c t) fc', .slice (some ⟨mb', 0, none⟩) (nG c t) mc', .int .i64 (wordsOf c t), .slice ca' c.cl.length cc', .int .i64 n, .slice qa' g2.q.length qc', .slice oa' g2.ow.length oc', .slice da' g2.di.length dc', .int .i64 pg', .int .i64 a'], .bool (decide (x1 = x2) && (i1 == i2))]) (by simp [results, Tryd.results36, go_sem, Act.put, q0, q1, q2, q3, q4, q5, q6, q7, q8, q9, q10, ed]) rfl ⟨_, _, rfl, TR.out, o3, ⟨lb', lc', fb', fc', mb', mc', ca', cc', qa', qc', oa', oc', da', dc', pg', a', rfl, (DN.out.chg kk9 (fun k e => .inr e)).mono fun k e => .inl e⟩, C.out.new (kk9.mono fun k e => by rw [e]; omega)⟩
  · obtain ⟨g1, x1, i1, j1, hg⟩ : ∃ g1 x1 i1 j1, walkG c t g = (g1, x1, i1, j1) := ⟨_, _, _, _, rfl⟩
    obtain ⟨g2, x2, i2, j2, hg2⟩ : ∃ g2 x2 i2 j2, walkG c t gd = (g2, x2, i2, j2) := ⟨_, _, _, _, rfl⟩
    have G1 := Lib.hid hg; have G2 := Lib.hid hg2
    rw [actG_3 hy, actG_3 hy, hg, hg2]
    clear hg hg2
    go_enter Tryd.func36, Tryd.ntmps36
    go_wp2_with fail
    clear v0 v1 v2 v3 v4 v5 v6 v7 v8 v9 v10 a0 a1 bz bz1 bz2
    refine (own_Walk O.out G1.out).mono ?_
    rintro e wA ⟨rfl, ho, hc⟩
    replace O := Lib.hid ho
    replace T := Lib.hid (T.out.chg hc GL.out)
    replace D := Lib.hid (D.out.chg hc fun k hk => .inl (PA.out k hk))
    replace C := Lib.hid (C.out.trans hc)
    clear ho hc
    have v0 := T.out.b1.c 0 _ rfl; have v1 := T.out.b1.c 1 _ rfl; have v2 := T.out.b1.c 2 _ rfl; have v3 := T.out.b1.c 3 _ rfl; have v4 := T.out.b1.c 4 _ rfl; have v5 := T.out.b1.c 5 _ rfl; have v6 := T.out.b1.c 6 _ rfl; have v7 := T.out.b1.c 7 _ rfl; have v8 := T.out.b1.c 8 _ rfl; have v9 := T.out.b1.c 9 _ rfl; have v10 := T.out.b1.c 10 _ rfl; have a0 := T.out.b2.c 0 _ rfl; have a1 := T.out.b2.c 1 _ rfl
    have bz := T.out.lt.1; have bz1 := T.out.lt.2.1; have bz2 := T.out.lt.2.2
    go_wp2_with fail
    clear v0 v1 v2 v3 v4 v5 v6 v7 v8 v9 v10 a0 a1 bz bz1 bz2
    have CD := ref17_Walk (lc := lc) (fc := fc) (mc := mc) (cc := cc) (oc := oc) (dc := dc) D.out (fun k hk => by have h1 := T.out.lt; rcases hk with hk | hk; exact Nat.lt_trans (PZ.out k hk) (by omega); omega) G2.out
    unfold gvs at CD
    refine CD.mono ?_
    rintro e wB ⟨V, rfl, hv, x⟩
    clear CD
    obtain ⟨lb', lc', fb', fc', mb', mc', ca', cc', qa', qc', oa', oc', da', dc', pg', a', rfl, hdn⟩ := hv
    have DN := Lib.hid hdn
    replace O := Lib.hid (O.out.go x)
    replace T := Lib.hid (T.out.go x)
    replace C := Lib.hid (C.out.trans (Chg.of_ext x))
    clear hdn x
    have bz := T.out.lt.1; have bz1 := T.out.lt.2.1; have bz2 := T.out.lt.2.2
    have r0 := T.out.b3.c 0 _ rfl; have r1 := T.out.b3.c 1 _ rfl; have r2 := T.out.b3.c 2 _ rfl; have r3 := T.out.b3.c 3 _ rfl; have r4 := T.out.b3.c 4 _ rfl; have r5 := T.out.b3.c 5 _ rfl; have r6 := T.out.b3.c 6 _ rfl; have r7 := T.out.b3.c 7 _ rfl; have r8 := T.out.b3.c 8 _ rfl; have r9 := T.out.b3.c 9 _ rfl; have r10 := T.out.b3.c 10 _ rfl; have k0 := T.out.b3.f 0; have k1 := T.out.b3.f 1; have k2 := T.out.b3.f 2; have k3 := T.out.b3.f 3; have k4 := T.out.b3.f 4; have k5 := T.out.b3.f 5; have k6 := T.out.b3.f 6; have k7 := T.out.b3.f 7; have k8 := T.out.b3.f 8; have k9 := T.out.b3.f 9; have k10 := T.out.b3.f 10
    unfold gvs
    have bn := T.out.lt
    have tr : g = gd → (decide (x1 = x2) && (i1 == i2) && (j1 == j2)) = true := by
      rintro rfl
      have := G1.out.symm.trans G2.out
      injection this with e1 e2; injection e2 with e2 e3; injection e3 with e3 e4
      subst e2 e3 e4; simp
    have TR := Lib.hid tr
    clear tr hwh hw0 hw1
    cases e1 : (x1 == x2)
    · have ed : decide (x1 = x2) = false := e1
      go_wp2_with fail
      obtain ⟨q11, qc11⟩ := T.out.b3.set11 (.slice (some ⟨lb', 0, none⟩) (nS c t) lc') (.slice (some ⟨fb', 0, none⟩) (nG c t) fc') (.slice (some ⟨mb', 0, none⟩) (nG c t) mc') (.int .i64 (wordsOf c t)) (.slice ca' c.cl.length cc') (.int .i64 n) (.slice qa' g2.q.length qc') (.slice oa' g2.ow.length oc') (.slice da' g2.di.length dc') (.int .i64 pg') (.int .i64 a') _ rfl
      have b9 := q11.ext ((Ext.refl _).alloc (.cells #[.slice (some ⟨lb', 0, none⟩) (nS c t) lc', .slice (some ⟨fb', 0, none⟩) (nG c t) fc', .slice (some ⟨mb', 0, none⟩) (nG c t) mc', .int .i64 (wordsOf c t), .slice ca' c.cl.length cc', .int .i64 n, .slice qa' g2.q.length qc', .slice oa' g2.ow.length oc', .slice da' g2.di.length dc', .int .i64 pg', .int .i64 a'] 33))
      have q0 := b9.c 0 _ rfl; have q1 := b9.c 1 _ rfl; have q2 := b9.c 2 _ rfl; have q3 := b9.c 3 _ rfl; have q4 := b9.c 4 _ rfl; have q5 := b9.c 5 _ rfl; have q6 := b9.c 6 _ rfl; have q7 := b9.c 7 _ rfl; have q8 := b9.c 8 _ rfl; have q9 := b9.c 9 _ rfl; have q10 := b9.c 10 _ rfl
      have kk9 := qc11.trans (Chg.of_ext ((Ext.refl _).alloc (.cells #[.slice (some ⟨lb', 0, none⟩) (nS c t) lc', .slice (some ⟨fb', 0, none⟩) (nG c t) fc', .slice (some ⟨mb', 0, none⟩) (nG c t) mc', .int .i64 (wordsOf c t), .slice ca' c.cl.length cc', .int .i64 n, .slice qa' g2.q.length qc', .slice oa' g2.ow.length oc', .slice da' g2.di.length dc', .int .i64 pg', .int .i64 a'] 33)))
      clear r0 r1 r2 r3 r4 r5 r6 r7 r8 r9 r10 k0 k1 k2 k3 k4 k5 k6 k7 k8 k9 k10 bz bz1 bz2
      have lo := LO.out
      have zz := HZ.out
      have o3 := O.out.far (T.out.b3.c 0 _ rfl) kk9 (by omega)
      refine bodyPost_ret (v := .tuple #[.agg #[.slice (some ⟨lb', 0, none⟩) (nS c t) lc', .slice (some ⟨fb', 0, none⟩) (nG c t) fc', .slice (some ⟨mb', 0, none⟩) (nG c t) mc', .int .i64 (wordsOf c t), .slice ca' c.cl.length cc', .int .i64 n, .slice qa' g2.q.length qc', .slice oa' g2.ow.length oc', .slice da' g2.di.length dc', .int .i64 pg', .int .i64 a'], .bool (decide (x1 = x2) && (i1 == i2) && (j1 == j2))]) (by simp [results, Tryd.results36, go_sem, Act.put, q0, q1, q2, q3, q4, q5, q6, q7, q8, q9, q10, ed]) rfl ⟨_, _, rfl, TR.out, o3, ⟨lb', lc', fb', fc', mb', mc', ca', cc', qa', qc', oa', oc', da', dc', pg', a', rfl, (DN.out.chg kk9 (fun k e => .inr e)).mono fun k e => .inl e⟩, C.out.new (kk9.mono fun k e => by rw [e]; omega)⟩
    · have ed : decide (x1 = x2) = true := e1
      cases e2 : (i1 == i2)
      all_goals
        go_wp2_with fail
        obtain ⟨q11, qc11⟩ := T.out.b3.set11 (.slice (some ⟨lb', 0, none⟩) (nS c t) lc') (.slice (some ⟨fb', 0, none⟩) (nG c t) fc') (.slice (some ⟨mb', 0, none⟩) (nG c t) mc') (.int .i64 (wordsOf c t)) (.slice ca' c.cl.length cc') (.int .i64 n) (.slice qa' g2.q.length qc') (.slice oa' g2.ow.length oc') (.slice da' g2.di.length dc') (.int .i64 pg') (.int .i64 a') _ rfl
        have b9 := q11.ext ((Ext.refl _).alloc (.cells #[.slice (some ⟨lb', 0, none⟩) (nS c t) lc', .slice (some ⟨fb', 0, none⟩) (nG c t) fc', .slice (some ⟨mb', 0, none⟩) (nG c t) mc', .int .i64 (wordsOf c t), .slice ca' c.cl.length cc', .int .i64 n, .slice qa' g2.q.length qc', .slice oa' g2.ow.length oc', .slice da' g2.di.length dc', .int .i64 pg', .int .i64 a'] 33))
        have q0 := b9.c 0 _ rfl; have q1 := b9.c 1 _ rfl; have q2 := b9.c 2 _ rfl; have q3 := b9.c 3 _ rfl; have q4 := b9.c 4 _ rfl; have q5 := b9.c 5 _ rfl; have q6 := b9.c 6 _ rfl; have q7 := b9.c 7 _ rfl; have q8 := b9.c 8 _ rfl; have q9 := b9.c 9 _ rfl; have q10 := b9.c 10 _ rfl
        have kk9 := qc11.trans (Chg.of_ext ((Ext.refl _).alloc (.cells #[.slice (some ⟨lb', 0, none⟩) (nS c t) lc', .slice (some ⟨fb', 0, none⟩) (nG c t) fc', .slice (some ⟨mb', 0, none⟩) (nG c t) mc', .int .i64 (wordsOf c t), .slice ca' c.cl.length cc', .int .i64 n, .slice qa' g2.q.length qc', .slice oa' g2.ow.length oc', .slice da' g2.di.length dc', .int .i64 pg', .int .i64 a'] 33)))
        clear r0 r1 r2 r3 r4 r5 r6 r7 r8 r9 r10 k0 k1 k2 k3 k4 k5 k6 k7 k8 k9 k10 bz bz1 bz2
        have lo := LO.out
        have zz := HZ.out
        have o3 := O.out.far (T.out.b3.c 0 _ rfl) kk9 (by omega)
        refine bodyPost_ret (v := .tuple #[.agg #[.slice (some ⟨lb', 0, none⟩) (nS c t) lc', .slice (some ⟨fb', 0, none⟩) (nG c t) fc', .slice (some ⟨mb', 0, none⟩) (nG c t) mc', .int .i64 (wordsOf c t), .slice ca' c.cl.length cc', .int .i64 n, .slice qa' g2.q.length qc', .slice oa' g2.ow.length oc', .slice da' g2.di.length dc', .int .i64 pg', .int .i64 a'], .bool (decide (x1 = x2) && (i1 == i2) && (j1 == j2))]) (by simp [results, Tryd.results36, go_sem, Act.put, q0, q1, q2, q3, q4, q5, q6, q7, q8, q9, q10, ed, e2]) rfl ⟨_, _, rfl, TR.out, o3, ⟨lb', lc', fb', fc', mb', mc', ca', cc', qa', qc', oa', oc', da', dc', pg', a', rfl, (DN.out.chg kk9 (fun k e => .inr e)).mono fun k e => .inl e⟩, C.out.new (kk9.mono fun k e => by rw [e]; omega)⟩
  · by_cases hs : s = 0
    · subst hs
      rw [actG_40 hy, actG_40 hy]
      go_enter Tryd.func36, Tryd.ntmps36
      go_wp2_with fail
      clear v0 v1 v2 v3 v4 v5 v6 v7 v8 v9 v10 a0 a1 bz bz1 bz2
      refine (own_Clear O.out).mono ?_
      rintro e wA ⟨rfl, ho, hc⟩
      replace O := Lib.hid ho
      replace T := Lib.hid (T.out.chg hc GL.out)
      replace D := Lib.hid (D.out.chg hc fun k hk => .inl (PA.out k hk))
      replace C := Lib.hid (C.out.trans hc)
      clear ho hc
      have v0 := T.out.b1.c 0 _ rfl; have v1 := T.out.b1.c 1 _ rfl; have v2 := T.out.b1.c 2 _ rfl; have v3 := T.out.b1.c 3 _ rfl; have v4 := T.out.b1.c 4 _ rfl; have v5 := T.out.b1.c 5 _ rfl; have v6 := T.out.b1.c 6 _ rfl; have v7 := T.out.b1.c 7 _ rfl; have v8 := T.out.b1.c 8 _ rfl; have v9 := T.out.b1.c 9 _ rfl; have v10 := T.out.b1.c 10 _ rfl; have a0 := T.out.b2.c 0 _ rfl; have a1 := T.out.b2.c 1 _ rfl
      have bz := T.out.lt.1; have bz1 := T.out.lt.2.1; have bz2 := T.out.lt.2.2
      go_wp2_with fail
      clear v0 v1 v2 v3 v4 v5 v6 v7 v8 v9 v10 a0 a1 bz bz1 bz2
      have hn1 := D.out.plan.ne (T.out.b3.c 0 _ rfl)
      have CD := ref17_New (P := fun k => P k ∨ k = z + 1 + 1) (lc := lc) (fc := fc) (mc := mc) (cc := cc) D.out.plan D.out.n64 (fun k hk => by have h1 := T.out.lt; rcases hk with hk | hk; exact Nat.lt_trans (PZ.out k hk) (by omega); omega) D.out.np D.out.nc
      unfold dpv at CD
      refine CD.mono ?_
      rintro e wB ⟨V, rfl, hv, x⟩
      clear CD
      obtain ⟨lb', lc', fb', fc', mb', mc', ca', cc', qa', qc', oa', oc', da', dc', pg', a', rfl, hdn⟩ := hv
      have DN := Lib.hid hdn
      replace O := Lib.hid (O.out.go x)
      replace T := Lib.hid (T.out.go x)
      replace C := Lib.hid (C.out.trans (Chg.of_ext x))
      clear hdn x
      have bz := T.out.lt.1; have bz1 := T.out.lt.2.1; have bz2 := T.out.lt.2.2
      have r0 := T.out.b3.c 0 _ rfl; have r1 := T.out.b3.c 1 _ rfl; have r2 := T.out.b3.c 2 _ rfl; have r3 := T.out.b3.c 3 _ rfl; have r4 := T.out.b3.c 4 _ rfl; have r5 := T.out.b3.c 5 _ rfl; have r6 := T.out.b3.c 6 _ rfl; have r7 := T.out.b3.c 7 _ rfl; have r8 := T.out.b3.c 8 _ rfl; have r9 := T.out.b3.c 9 _ rfl; have r10 := T.out.b3.c 10 _ rfl; have k0 := T.out.b3.f 0; have k1 := T.out.b3.f 1; have k2 := T.out.b3.f 2; have k3 := T.out.b3.f 3; have k4 := T.out.b3.f 4; have k5 := T.out.b3.f 5; have k6 := T.out.b3.f 6; have k7 := T.out.b3.f 7; have k8 := T.out.b3.f 8; have k9 := T.out.b3.f 9; have k10 := T.out.b3.f 10
      unfold gvs
      have bn := T.out.lt
      clear hwh hw0 hw1 hn1
      go_wp2_with fail
      obtain ⟨q11, qc11⟩ := T.out.b3.set11 (.slice (some ⟨lb', 0, none⟩) (nS c t) lc') (.slice (some ⟨fb', 0, none⟩) (nG c t) fc') (.slice (some ⟨mb', 0, none⟩) (nG c t) mc') (.int .i64 (wordsOf c t)) (.slice ca' c.cl.length cc') (.int .i64 n) (.slice qa' (clearG c t).q.length qc') (.slice oa' (clearG c t).ow.length oc') (.slice da' (clearG c t).di.length dc') (.int .i64 pg') (.int .i64 a') _ rfl
      have b9 := q11
      have q0 := b9.c 0 _ rfl; have q1 := b9.c 1 _ rfl; have q2 := b9.c 2 _ rfl; have q3 := b9.c 3 _ rfl; have q4 := b9.c 4 _ rfl; have q5 := b9.c 5 _ rfl; have q6 := b9.c 6 _ rfl; have q7 := b9.c 7 _ rfl; have q8 := b9.c 8 _ rfl; have q9 := b9.c 9 _ rfl; have q10 := b9.c 10 _ rfl
      have kk9 := qc11
      clear r0 r1 r2 r3 r4 r5 r6 r7 r8 r9 r10 k0 k1 k2 k3 k4 k5 k6 k7 k8 k9 k10 bz bz1 bz2
      have lo := LO.out
      have zz := HZ.out
      have o3 := O.out.far (T.out.b3.c 0 _ rfl) kk9 (by omega)
      refine bodyPost_ret (v := .tuple #[.agg #[.slice (some ⟨lb', 0, none⟩) (nS c t) lc', .slice (some ⟨fb', 0, none⟩) (nG c t) fc', .slice (some ⟨mb', 0, none⟩) (nG c t) mc', .int .i64 (wordsOf c t), .slice ca' c.cl.length cc', .int .i64 n, .slice qa' (clearG c t).q.length qc', .slice oa' (clearG c t).ow.length oc', .slice da' (clearG c t).di.length dc', .int .i64 pg', .int .i64 a'], .bool true]) (by simp [results, Tryd.results36, go_sem, Act.put, q0, q1, q2, q3, q4, q5, q6, q7, q8, q9, q10]) rfl ⟨_, _, rfl, fun _ => rfl, o3, ⟨lb', lc', fb', fc', mb', mc', ca', cc', qa', qc', oa', oc', da', dc', pg', a', rfl, (DN.out.chg kk9 (fun k e => .inr e)).mono fun k e => .inl e⟩, C.out.new (kk9.mono fun k e => by rw [e]; omega)⟩
    · rw [actG_4 hy hs, actG_4 hy hs]
      have ts : (s == 0) = false := by simpa using hs
      clear hs
      have r0 := T.out.b3.c 0 _ rfl; have r1 := T.out.b3.c 1 _ rfl; have r2 := T.out.b3.c 2 _ rfl; have r3 := T.out.b3.c 3 _ rfl; have r4 := T.out.b3.c 4 _ rfl; have r5 := T.out.b3.c 5 _ rfl; have r6 := T.out.b3.c 6 _ rfl; have r7 := T.out.b3.c 7 _ rfl; have r8 := T.out.b3.c 8 _ rfl; have r9 := T.out.b3.c 9 _ rfl; have r10 := T.out.b3.c 10 _ rfl; have k0 := T.out.b3.f 0; have k1 := T.out.b3.f 1; have k2 := T.out.b3.f 2; have k3 := T.out.b3.f 3; have k4 := T.out.b3.f 4; have k5 := T.out.b3.f 5; have k6 := T.out.b3.f 6; have k7 := T.out.b3.f 7; have k8 := T.out.b3.f 8; have k9 := T.out.b3.f 9; have k10 := T.out.b3.f 10
      go_enter Tryd.func36, Tryd.ntmps36
      go_wp2_with fail
      clear v0 v1 v2 v3 v4 v5 v6 v7 v8 v9 v10 a0 a1
      have DN := D
      obtain ⟨q11, qc11⟩ := T.out.b3.set11 (.slice (some ⟨lb, 0, none⟩) (nS c t) lc) (.slice (some ⟨fb, 0, none⟩) (nG c t) fc) (.slice (some ⟨mb, 0, none⟩) (nG c t) mc) (.int .i64 (wordsOf c t)) (.slice ca c.cl.length cc) (.int .i64 n) (.slice qa gd.q.length qc) (.slice oa gd.ow.length oc) (.slice da gd.di.length dc) (.int .i64 pg) (.int .i64 a) _ rfl
      have b9 := q11
      have q0 := b9.c 0 _ rfl; have q1 := b9.c 1 _ rfl; have q2 := b9.c 2 _ rfl; have q3 := b9.c 3 _ rfl; have q4 := b9.c 4 _ rfl; have q5 := b9.c 5 _ rfl; have q6 := b9.c 6 _ rfl; have q7 := b9.c 7 _ rfl; have q8 := b9.c 8 _ rfl; have q9 := b9.c 9 _ rfl; have q10 := b9.c 10 _ rfl
      have kk9 := qc11
      clear r0 r1 r2 r3 r4 r5 r6 r7 r8 r9 r10 k0 k1 k2 k3 k4 k5 k6 k7 k8 k9 k10 bz bz1 bz2
      have lo := LO.out
      have zz := HZ.out
      have o3 := O.out.far (T.out.b3.c 0 _ rfl) kk9 (by omega)
      refine bodyPost_ret (v := .tuple #[.agg #[.slice (some ⟨lb, 0, none⟩) (nS c t) lc, .slice (some ⟨fb, 0, none⟩) (nG c t) fc, .slice (some ⟨mb, 0, none⟩) (nG c t) mc, .int .i64 (wordsOf c t), .slice ca c.cl.length cc, .int .i64 n, .slice qa gd.q.length qc, .slice oa gd.ow.length oc, .slice da gd.di.length dc, .int .i64 pg, .int .i64 a], .bool true]) (by simp [results, Tryd.results36, go_sem, Act.put, q0, q1, q2, q3, q4, q5, q6, q7, q8, q9, q10]) rfl ⟨_, _, rfl, fun _ => rfl, o3, ⟨lb, lc, fb, fc, mb, mc, ca, cc, qa, qc, oa, oc, da, dc, pg, a, rfl, (DN.out.chg kk9 (fun k e => .inr e)).mono fun k e => .inl e⟩, C.out.new (kk9.mono fun k e => by rw [e]; omega)⟩
  · have ty2 : (y == 2) = false := by simpa using y2
    have ty3 : (y == 3) = false := by simpa using y3
    have ty4 : (y == 4) = false := by simpa using y4
    obtain ⟨g1, u1, hg⟩ : ∃ g1 u1, putG c t n g s = (g1, u1) := ⟨_, _, rfl⟩
    obtain ⟨g2, u2, hg2⟩ : ∃ g2 u2, putG c t n gd s = (g2, u2) := ⟨_, _, rfl⟩
    have G1 := Lib.hid hg; have G2 := Lib.hid hg2
    rw [actG_0 hy y2 y3 y4, actG_0 hy y2 y3 y4, hg, hg2]
    have TR : Hid (g = gd → (u1 == u2) = true) := Lib.hid (by
      rintro rfl
      have := G1.out.symm.trans G2.out
      injection this with e1 e2
      subst e2; simp)
    clear hg hg2 y2 y3 y4
    go_enter Tryd.func36, Tryd.ntmps36
    go_wp2_with fail
    clear v0 v1 v2 v3 v4 v5 v6 v7 v8 v9 v10 a0 a1 bz bz1 bz2
    have CD := ref17_Put (lc := lc) (fc := fc) (mc := mc) (cc := cc) (oc := oc) (dc := dc) D.out (fun k hk => by have h1 := T.out.lt; rcases hk with hk | hk; exact Nat.lt_trans (PZ.out k hk) (by omega); omega) G2.out
    unfold gvs at CD
    refine CD.mono ?_
    rintro e wB ⟨V, rfl, hv, x⟩
    clear CD
    obtain ⟨lb', lc', fb', fc', mb', mc', ca', cc', qa', qc', oa', oc', da', dc', pg', a', rfl, hdn⟩ := hv
    have DN := Lib.hid hdn
    replace O := Lib.hid (O.out.go x)
    replace T := Lib.hid (T.out.go x)
    replace C := Lib.hid (C.out.trans (Chg.of_ext x))
    clear hdn x
    have bz := T.out.lt.1; have bz1 := T.out.lt.2.1; have bz2 := T.out.lt.2.2
    have a1 := T.out.b2.c 1 _ rfl
    unfold gvs
    go_upto_region 16 with fail
    obtain ⟨y', hy'⟩ : ∃ y, wB.heap.size = y := ⟨_, rfl⟩
    obtain ⟨W4, hW4⟩ : ∃ W, wB.alloc (.cells #[.slice (some ⟨lb', 0, none⟩) (nS c t) lc', .slice (some ⟨fb', 0, none⟩) (nG c t) fc', .slice (some ⟨mb', 0, none⟩) (nG c t) mc', .int .i64 (wordsOf c t), .slice ca' c.cl.length cc', .int .i64 n, .slice qa' g2.q.length qc', .slice oa' g2.ow.length oc', .slice da' g2.di.length dc', .int .i64 pg', .int .i64 a'] 33) = W := ⟨_, rfl⟩
    have x4 : Ext wB W4 := by rw [← hW4]; exact (Ext.refl _).alloc _
    have PB : Hid (BoxG W4 y' [.slice (some ⟨lb', 0, none⟩) (nS c t) lc', .slice (some ⟨fb', 0, none⟩) (nG c t) fc', .slice (some ⟨mb', 0, none⟩) (nG c t) mc', .int .i64 (wordsOf c t), .slice ca' c.cl.length cc', .int .i64 n, .slice qa' g2.q.length qc', .slice oa' g2.ow.length oc', .slice da' g2.di.length dc', .int .i64 pg', .int .i64 a']) := Lib.hid (by rw [← hW4]; exact BoxG.new wB _ _ hy')
    have NY : Hid (∀ k, grB b og dg rg k → ¬ k = y') := Lib.hid fun k hk e => by have := GL.out k hk; omega
    rw [hW4, hy']
    replace O := Lib.hid (O.out.go (x4.trans (Ext.refl _).drew))
    replace T := Lib.hid (T.out.go x4)
    replace DN := Lib.hid (DN.out.ext (x4.trans (Ext.refl _).drew))
    replace C := Lib.hid (C.out.trans (Chg.of_ext (x4.trans (Ext.refl _).drew)))
    have TD := Lib.hid (T.out.go (Ext.refl _).drew)
    clear x4 hW4 hy' a1 bz bz1 bz2 hwh hw0 hw1
    have a1 := T.out.b2.c 1 _ rfl
    have bz := T.out.lt.1; have bz1 := T.out.lt.2.1; have bz2 := T.out.lt.2.2
    have p0 := PB.out.c 0 _ rfl; have p1 := PB.out.c 1 _ rfl; have p2 := PB.out.c 2 _ rfl; have p3 := PB.out.c 3 _ rfl; have p4 := PB.out.c 4 _ rfl; have p5 := PB.out.c 5 _ rfl; have p6 := PB.out.c 6 _ rfl; have p7 := PB.out.c 7 _ rfl; have p8 := PB.out.c 8 _ rfl; have p9 := PB.out.c 9 _ rfl; have p10 := PB.out.c 10 _ rfl
    go_region_with ((go_at_call 15; refine (own_Put O.out G1.out).mono ?_; rintro e wC ⟨rfl, ho, hc⟩; have T5 := Lib.hid (TD.out.chg hc GL.out); have P5 := Lib.hid ((PB.out.ext (Ext.refl _).drew).chg hc (fun q => NY.out _ q rfl)); have O5 := Lib.hid ho; have D5 := Lib.hid (DN.out.chg hc fun k hk => .inl (PA.out k hk)); have C5 := Lib.hid (C.out.trans hc); clear ho hc; have p'0 := P5.out.c 0 _ rfl; have p'1 := P5.out.c 1 _ rfl; have p'2 := P5.out.c 2 _ rfl; have p'3 := P5.out.c 3 _ rfl; have p'4 := P5.out.c 4 _ rfl; have p'5 := P5.out.c 5 _ rfl; have p'6 := P5.out.c 6 _ rfl; have p'7 := P5.out.c 7 _ rfl; have p'8 := P5.out.c 8 _ rfl; have p'9 := P5.out.c 9 _ rfl; have p'10 := P5.out.c 10 _ rfl; have r0 := T5.out.b3.c 0 _ rfl; have r1 := T5.out.b3.c 1 _ rfl; have r2 := T5.out.b3.c 2 _ rfl; have r3 := T5.out.b3.c 3 _ rfl; have r4 := T5.out.b3.c 4 _ rfl; have r5 := T5.out.b3.c 5 _ rfl; have r6 := T5.out.b3.c 6 _ rfl; have r7 := T5.out.b3.c 7 _ rfl; have r8 := T5.out.b3.c 8 _ rfl; have r9 := T5.out.b3.c 9 _ rfl; have r10 := T5.out.b3.c 10 _ rfl; have k0 := T5.out.b3.f 0; have k1 := T5.out.b3.f 1; have k2 := T5.out.b3.f 2; have k3 := T5.out.b3.f 3; have k4 := T5.out.b3.f 4; have k5 := T5.out.b3.f 5; have k6 := T5.out.b3.f 6; have k7 := T5.out.b3.f 7; have k8 := T5.out.b3.f 8; have k9 := T5.out.b3.f 9; have k10 := T5.out.b3.f 10))
    all_goals
      have T := T5; have O := O5; have DN := D5; have C := C5
      clear p0 p1 p2 p3 p4 p5 p6 p7 p8 p9 p10 p'0 p'1 p'2 p'3 p'4 p'5 p'6 p'7 p'8 p'9 p'10 a1
      go_wp2_with fail
      obtain ⟨q11, qc11⟩ := T.out.b3.set11 (.slice (some ⟨lb', 0, none⟩) (nS c t) lc') (.slice (some ⟨fb', 0, none⟩) (nG c t) fc') (.slice (some ⟨mb', 0, none⟩) (nG c t) mc') (.int .i64 (wordsOf c t)) (.slice ca' c.cl.length cc') (.int .i64 n) (.slice qa' g2.q.length qc') (.slice oa' g2.ow.length oc') (.slice da' g2.di.length dc') (.int .i64 pg') (.int .i64 a') _ rfl
      have b9 := q11
      have q0 := b9.c 0 _ rfl; have q1 := b9.c 1 _ rfl; have q2 := b9.c 2 _ rfl; have q3 := b9.c 3 _ rfl; have q4 := b9.c 4 _ rfl; have q5 := b9.c 5 _ rfl; have q6 := b9.c 6 _ rfl; have q7 := b9.c 7 _ rfl; have q8 := b9.c 8 _ rfl; have q9 := b9.c 9 _ rfl; have q10 := b9.c 10 _ rfl
      have kk9 := qc11
      clear r0 r1 r2 r3 r4 r5 r6 r7 r8 r9 r10 k0 k1 k2 k3 k4 k5 k6 k7 k8 k9 k10 bz bz1 bz2
      have lo := LO.out
      have zz := HZ.out
      have o3 := O.out.far (T.out.b3.c 0 _ rfl) kk9 (by omega)
      refine bodyPost_ret (v := .tuple #[.agg #[.slice (some ⟨lb', 0, none⟩) (nS c t) lc', .slice (some ⟨fb', 0, none⟩) (nG c t) fc', .slice (some ⟨mb', 0, none⟩) (nG c t) mc', .int .i64 (wordsOf c t), .slice ca' c.cl.length cc', .int .i64 n, .slice qa' g2.q.length qc', .slice oa' g2.ow.length oc', .slice da' g2.di.length dc', .int .i64 pg', .int .i64 a'], .bool (u1 == u2)]) (by simp [results, Tryd.results36, go_sem, Act.put, q0, q1, q2, q3, q4, q5, q6, q7, q8, q9, q10]) rfl ⟨_, _, rfl, TR.out, o3, ⟨lb', lc', fb', fc', mb', mc', ca', cc', qa', qc', oa', oc', da', dc', pg', a', rfl, (DN.out.chg kk9 (fun k e => .inr e)).mono fun k e => .inl e⟩, C.out.new (kk9.mono fun k e => by rw [e]; omega)⟩

end Go.Proofs.YtlhajoamebfniaaDoor

/-! What the loops of acts of commonagelaw17 keep; GreyPlays. (Printed by wip/gen17f.py.) -/
namespace Go.Proofs.YtlhajoamebfniaaDoor
open Go.RowKit
variable {P : Nat → Prop} {w0 w w' wr W : World} {b pb gp ob og db dg rg zq : Nat} {c : Conf} {t n : Nat} {g g' : GS} {V V' : List Value}

structure GAct where
  what : Int
  slot : Int
instance : Inhabited GAct := ⟨⟨0, 0⟩⟩
def gActnth (l : List GAct) (i : Nat) : GAct := l.getD i default
def GAct.Ok (t : GAct) : Prop := (0 ≤ t.what ∧ t.what ≤ 255) ∧ (-9223372036854775808 ≤ t.slot ∧ t.slot ≤ 9223372036854775807)
def GActAt (w : World) (a : Option Addr) (l : List GAct) : Prop := ∀ i, i < l.length → (gActnth l i).Ok ∧ ∃ b o, a = some ⟨b, o, none⟩ ∧ w.cell? ⟨b, o + i * 2, none⟩ = some (.int .u8 (gActnth l i).what) ∧ w.cell? ⟨b, o + i * 2 + 1, none⟩ = some (.int .i64 (gActnth l i).slot)
theorem GActAt.ext {w w' : World} {a : Option Addr} {l : List GAct} (h : GActAt w a l) (hx : Ext w w') : GActAt w' a l := fun i hi => by
  obtain ⟨k, b, o, e, c0, c1⟩ := h i hi
  exact ⟨k, b, o, e, hx.cell c0, hx.cell c1⟩

/-- A grey's blocks, and the box of the document's. -/
def grZ (b og dg rg zq k : Nat) : Prop := grB b og dg rg k ∨ k = zq
/-- What the loop of acts keeps: a grey, and the document's, which lies in the box zq. -/
structure PlayG (w0 : World) (b pb gp ob og db dg rg zq : Nat) (c : Conf) (t n : Nat) (g : GS) (gd : GS) (V : List Value) (wr : World) : Prop where
  own : OwnG w0 wr b pb gp ob og db dg rg c t n g
  doc : DGr (grZ b og dg rg zq) wr c t n V gd
  box : BoxG wr zq V
  lz : w0.heap.size ≤ zq
  nb : b < zq ∧ pb < zq ∧ gp < zq ∧ ob < zq ∧ og < zq ∧ db < zq ∧ dg < zq ∧ rg < zq ∧ 0 < zq
theorem PlayG.go {gd : GS} (h : PlayG w0 b pb gp ob og db dg rg zq c t n g gd V wr) (hx : Ext wr w') : PlayG w0 b pb gp ob og db dg rg zq c t n g gd V w' :=
  ⟨h.own.go hx, h.doc.ext hx, h.box.ext hx, h.lz, h.nb⟩
theorem PlayG.ng {gd : GS} (h : PlayG w0 b pb gp ob og db dg rg zq c t n g gd V wr) : ¬ grB b og dg rg zq := by have := h.nb; unfold grB; omega
theorem PlayG.lt {gd : GS} (h : PlayG w0 b pb gp ob og db dg rg zq c t n g gd V wr) : ∀ k, grZ b og dg rg zq k → k < wr.heap.size := by
  have h1 := h.box.lt
  have h2 := h.nb
  rintro k (hk | hk)
  · unfold grB at hk; omega
  · omega
/-- A box behind a grey's blocks is stored into. -/
theorem OwnG.off {x : Nat} (h : OwnG w0 w b pb gp ob og db dg rg c t n g) (nb : b < x ∧ pb < x ∧ gp < x ∧ ob < x ∧ og < x ∧ db < x ∧ dg < x ∧ rg < x ∧ 0 < x) (hx : Chg (fun k => k = x) w w') (hl : w0.heap.size ≤ x) : OwnG w0 w' b pb gp ob og db dg rg c t n g := by
  obtain ⟨f, hf⟩ := h.gr
  exact ⟨⟨f, hf.chg hx (by omega) ⟨by omega, by omega⟩ ⟨by omega, by omega⟩ ⟨by omega, by omega⟩ (by omega)⟩, h.tab.chg hx (by omega), hx.over h.ext fun k e => by rw [e]; exact hl, h.low⟩
/-- Behind an act: the grey and the document's have turned; the latter is stored in its box. -/
theorem PlayG.step {gd gd' : GS} (h : PlayG w0 b pb gp ob og db dg rg zq c t n g gd V wr) (ho : OwnG w0 w' b pb gp ob og db dg rg c t n g') (hd : DGr (grZ b og dg rg zq) w' c t n V' gd') (hx : Chg (fun k => k = zq) w' W) (hb : BoxG W zq V') : PlayG w0 b pb gp ob og db dg rg zq c t n g' gd' V' W :=
  ⟨ho.off h.nb hx h.lz, hd.chg hx fun k e => .inr e, hb, h.lz, h.nb⟩
/-- Ahead of the loop. -/
theorem PlayG.start {gd : GS} (ho : OwnG w0 w b pb gp ob og db dg rg c t n g) (hd : DGr (grB b og dg rg) w c t n V gd) (hz : w.heap.size = zq) (u : TypeId) :
    PlayG w0 b pb gp ob og db dg rg zq c t n g gd V (w.alloc (.cells V.toArray u)) := by
  have x := (Ext.refl w).alloc (.cells V.toArray u)
  obtain ⟨f, hf⟩ := ho.gr
  have l := hf.lt
  have tb : 0 < w.heap.size := cell_lt (ho.tab 0 (by decide))
  exact ⟨ho.go x, (hd.widen.mono fun k q => by
    rcases q with q | q
    · exact .inl q
    · right; omega).ext x, BoxG.new w _ _ hz, by rw [← hz]; exact ho.ext.size, by omega⟩
/-- An act, whatever has been laid since. -/
theorem law17_does_in {wh s : Int} {gd : GS} (h : PlayG w0 b pb gp ob og db dg rg zq c t n g gd V wr) (hx : Ext wr W) (hwh : 0 ≤ wh ∧ wh ≤ 255) :
    Calls Tryd.prog 36 #[.pointer (some ⟨b, 0, none⟩), .agg V.toArray, .agg #[.int .u8 wh, .int .i64 s]] W fun e w' => ∃ V' r, e = .returned (.tuple #[.agg V'.toArray, .bool r]) ∧ (g = gd → r = true) ∧ OwnG w0 w' b pb gp ob og db dg rg c t n (actG c t n g wh s) ∧ DGr (fun k => grZ b og dg rg zq k ∨ (wr.heap.size ≤ k ∧ k < W.heap.size)) w' c t n V' (actG c t n gd wh s) ∧ Chg (grB b og dg rg) W w' :=
  law17_does hwh (h.own.go hx) ((h.doc.widen.ext hx).mono fun k q => by
    rcases q with q | q
    · exact .inl q
    · exact .inr q.1) (fun k q => .inl (.inl q)) (fun k q => by
    rcases q with q | q
    · exact Nat.lt_of_lt_of_le (h.lt k q) hx.size
    · exact q.2)
theorem far11 {x y o : Nat} {v v0 v1 v2 v3 v4 v5 v6 v7 v8 v9 v10 : Value} (h : x ≠ y) (hc : w.cell? ⟨y, o, none⟩ = some v) : (((((((((((w.setCell ⟨x, 0, none⟩ v0).setCell ⟨x, 1, none⟩ v1).setCell ⟨x, 2, none⟩ v2).setCell ⟨x, 3, none⟩ v3).setCell ⟨x, 4, none⟩ v4).setCell ⟨x, 5, none⟩ v5).setCell ⟨x, 6, none⟩ v6).setCell ⟨x, 7, none⟩ v7).setCell ⟨x, 8, none⟩ v8).setCell ⟨x, 9, none⟩ v9).setCell ⟨x, 10, none⟩ v10).cell? ⟨y, o, none⟩ = some v := by
  rw [cell_far _ _ _ _ h, cell_far _ _ _ _ h, cell_far _ _ _ _ h, cell_far _ _ _ _ h, cell_far _ _ _ _ h, cell_far _ _ _ _ h, cell_far _ _ _ _ h, cell_far _ _ _ _ h, cell_far _ _ _ _ h, cell_far _ _ _ _ h, cell_far _ _ _ _ h]; exact hc
theorem cfg_gr {c : Conf} (h : kcheck c = 0) : ∃ n : Nat, c.gr = n := ⟨c.gr.toNat, by have := (kcheck_ok h).head.2.2.2.2.2.2.1; omega⟩

set_option maxRecDepth 100000 in
set_option maxHeartbeats 16000000 in
theorem law17_GreyPlays {ca0 ta la : Option Addr} {cc0 tc lcc : Nat} (c : Conf) (tn : Int) (l : List GAct) (w : World) (hT : Tab w) (h : CfgAt w ca0 ta cc0 tc c) (htn : 0 ≤ tn ∧ tn ≤ 255) (hl : GActAt w la l) (hlm : l.length ≤ maxLen) :
    Calls Tryd.prog 8 #[.agg #[.slice ca0 c.cl.length cc0, .int .i64 c.page, .slice ta c.ts.length tc, .int .i64 c.wk, .int .i64 c.gr, .int .i64 c.gens], .int .u8 tn, .slice la l.length lcc] w fun e w' => e = .returned (.bool true) ∧ Ext w w' := by
  have H := Lib.hid h; have HL := Lib.hid hl; have HT := Lib.hid hT
  unfold maxLen at hlm
  clear h hl hT
  obtain ⟨z, hz⟩ : ∃ z, w.heap.size = z := ⟨_, rfl⟩
  have HZ := Lib.hid hz
  obtain ⟨W0, hW0⟩ : ∃ W0, w.alloc (.cells #[.slice ca0 c.cl.length cc0, .int .i64 c.page, .slice ta c.ts.length tc, .int .i64 c.wk, .int .i64 c.gr, .int .i64 c.gens] 25) = W0 := ⟨_, rfl⟩
  have X0 : Hid (Ext w W0) := Lib.hid (by rw [← hW0]; exact (Ext.refl _).alloc _)
  have B0 : Hid (BoxG W0 z [.slice ca0 c.cl.length cc0, .int .i64 c.page, .slice ta c.ts.length tc, .int .i64 c.wk, .int .i64 c.gr, .int .i64 c.gens]) := Lib.hid (by rw [← hW0]; exact BoxG.new w _ _ hz)
  have b0 := B0.out.c 0 _ rfl; have b1 := B0.out.c 1 _ rfl; have b2 := B0.out.c 2 _ rfl; have b3 := B0.out.c 3 _ rfl; have b4 := B0.out.c 4 _ rfl; have b5 := B0.out.c 5 _ rfl
  by_cases hg : bigA c = false ∧ kcheck c = 0
  · obtain ⟨hg, h0⟩ := hg
    have ho := kcheck_ok h0
    obtain ⟨t, hmod, hi⟩ := mod_nat (tn := tn) ho.head.2.2.1
    obtain ⟨n, hn⟩ := cfg_gr h0
    have CM := Lib.hid (law17_made c tn (HT.out.ext X0.out) hg h0 htn hi hmod hn (H.out.ext X0.out))
    clear hg h0 ho hmod htn hn
    go_enter Tryd.func8, Tryd.ntmps8
    go_wp2_with fail
    clear b0 b1 b2 b3 b4 b5
    refine CM.out.mono ?_
    rintro e w1 ⟨b, pb, gp, ob, og, db, dg, rg, V, rfl, ho, hd⟩
    have HO := Lib.hid ho
    have HDG := Lib.hid hd
    obtain ⟨lb, lc, fb, fc, mb, mc, ca, cc, qa, qc, oa, oc, da, dc, pg, a, rfl, hd⟩ := hd
    clear ho hd CM
    unfold gvs at HDG ⊢
    go_wp2_with fail
    obtain ⟨zq, hzq⟩ : ∃ zq, w1.heap.size = zq := ⟨_, rfl⟩
    obtain ⟨V0, hV0⟩ : ∃ V0, [Value.slice (some ⟨lb, 0, none⟩) (nS c t) lc, .slice (some ⟨fb, 0, none⟩) (nG c t) fc, .slice (some ⟨mb, 0, none⟩) (nG c t) mc, .int .i64 (wordsOf c t), .slice ca c.cl.length cc, .int .i64 n, .slice qa (clearG c t).q.length qc, .slice oa (clearG c t).ow.length oc, .slice da (clearG c t).di.length dc, .int .i64 pg, .int .i64 a] = V0 := ⟨_, rfl⟩
    obtain ⟨W1, hW1⟩ : ∃ W, w1.alloc (.cells #[.slice (some ⟨lb, 0, none⟩) (nS c t) lc, .slice (some ⟨fb, 0, none⟩) (nG c t) fc, .slice (some ⟨mb, 0, none⟩) (nG c t) mc, .int .i64 (wordsOf c t), .slice ca c.cl.length cc, .int .i64 n, .slice qa (clearG c t).q.length qc, .slice oa (clearG c t).ow.length oc, .slice da (clearG c t).di.length dc, .int .i64 pg, .int .i64 a] 33) = W := ⟨_, rfl⟩
    have HP : Hid (PlayG W0 b pb gp ob og db dg rg zq c t n (clearG c t) (clearG c t) V0 W1) := Lib.hid (by
      rw [← hV0, ← hW1]
      exact PlayG.start HO.out HDG.out hzq 33)
    rw [hW1, hzq]
    clear HO HDG hW1 hzq hV0
    go_loopw [9] (fun kv wr => ∃ (k : Nat) (g : GS) (V : List Value), k ≤ l.length ∧ k ≤ 100 ∧ kv = .int .i64 k ∧ Hid (PlayG W0 b pb gp ob og db dg rg zq c t n g g V wr)) (fun kv _ => 100 - (intOf kv).toNat)
    case atStart => exact ⟨0, _, V0, Nat.zero_le _, Nat.zero_le _, rfl, HP⟩
    case round =>
      clear HP
      obtain ⟨k, g, V, hk, hk80, rfl, PR⟩ := hrel
      rcases (show (k < l.length ∧ k < 100) ∨ (k < l.length ∧ k = 100) ∨ k = l.length by omega) with ⟨hlt, h80⟩ | ⟨hlt, rfl⟩ | rfl
      · obtain ⟨ok, ab, ao, rfl, c0, c1⟩ := HL.out k hlt
        have OK := Lib.hid ok
        have la0 : ab < w.heap.size := cell_lt c0
        have XW := Lib.hid (X0.out.trans PR.out.own.ext)
        replace c0 := XW.out.cell c0; replace c1 := XW.out.cell c1
        clear ok
        generalize gActnth l k = y at *
        obtain ⟨lb, lc, fb, fc, mb, mc, ca, cc, qa, qc, oa, oc, da, dc, pg, a, rfl, hd⟩ := PR.out.doc
        unfold gvs at PR
        clear hd
        have q0 := PR.out.box.c 0 _ rfl; have q1 := PR.out.box.c 1 _ rfl; have q2 := PR.out.box.c 2 _ rfl; have q3 := PR.out.box.c 3 _ rfl; have q4 := PR.out.box.c 4 _ rfl; have q5 := PR.out.box.c 5 _ rfl; have q6 := PR.out.box.c 6 _ rfl; have q7 := PR.out.box.c 7 _ rfl; have q8 := PR.out.box.c 8 _ rfl; have q9 := PR.out.box.c 9 _ rfl; have q10 := PR.out.box.c 10 _ rfl
        have nbz := Lib.hid PR.out.nb
        have lz : zq < wr.heap.size := PR.out.box.lt
        have la : ab < wr.heap.size := cell_lt c0
        have na : ¬ grB b og dg rg ab := by have h1 := PR.out.own.low; have := X0.out.size; unfold grB; omega
        have nq : ¬ grB b og dg rg zq := PR.out.ng
        have n9 : ¬ grB b og dg rg wr.heap.size := by have := nbz.out; unfold grB; omega
        have z9 : wr.heap.size ≠ zq := by omega
        have a9 : wr.heap.size ≠ ab := by omega
        have hk0 : (0 : Int) ≤ (k : Int) := Int.natCast_nonneg _
        have hk1 : (k : Int) < (l.length : Int) := by omega
        go_wp2_with fail
        go_region_held3 (fun w' => w'.cell? ⟨zq, 0, none⟩ = some (.slice (some ⟨lb, 0, none⟩) (nS c t) lc) ∧ w'.cell? ⟨zq, 1, none⟩ = some (.slice (some ⟨fb, 0, none⟩) (nG c t) fc) ∧ w'.cell? ⟨zq, 2, none⟩ = some (.slice (some ⟨mb, 0, none⟩) (nG c t) mc) ∧ w'.cell? ⟨zq, 3, none⟩ = some (.int .i64 (wordsOf c t)) ∧ w'.cell? ⟨zq, 4, none⟩ = some (.slice ca c.cl.length cc) ∧ w'.cell? ⟨zq, 5, none⟩ = some (.int .i64 n) ∧ w'.cell? ⟨zq, 6, none⟩ = some (.slice qa g.q.length qc) ∧ w'.cell? ⟨zq, 7, none⟩ = some (.slice oa g.ow.length oc) ∧ w'.cell? ⟨zq, 8, none⟩ = some (.slice da g.di.length dc) ∧ w'.cell? ⟨zq, 9, none⟩ = some (.int .i64 pg) ∧ w'.cell? ⟨zq, 10, none⟩ = some (.int .i64 a) ∧ w'.cell? ⟨ab, ao + k * 2, none⟩ = some (.int .u8 y.what) ∧ w'.cell? ⟨ab, ao + k * 2 + 1, none⟩ = some (.int .i64 y.slot))
          ((first | with_reducible exact ⟨k0, k1, k2, k3, k4, k5, k6, k7, k8, k9, k10, k11, k12⟩ | with_reducible exact ⟨cell_alloc k0 _, cell_alloc k1 _, cell_alloc k2 _, cell_alloc k3 _, cell_alloc k4 _, cell_alloc k5 _, cell_alloc k6 _, cell_alloc k7 _, cell_alloc k8 _, cell_alloc k9 _, cell_alloc k10 _, cell_alloc k11 _, cell_alloc k12 _⟩ | with_reducible exact ⟨far11 z9 k0, far11 z9 k1, far11 z9 k2, far11 z9 k3, far11 z9 k4, far11 z9 k5, far11 z9 k6, far11 z9 k7, far11 z9 k8, far11 z9 k9, far11 z9 k10, far11 a9 k11, far11 a9 k12⟩ | go_keep))
          ((go_at_call 36; refine (law17_does_in PR.out ?_ OK.out.1).mono ?_; (repeat (first | with_reducible exact Ext.refl _ | with_reducible refine Ext.drew ?_ | with_reducible refine Ext.drewN ?_ _ | with_reducible refine Ext.alloc ?_ _)); rintro e w6 ⟨V6, r6, rfl, hr6, ho6, hd6, hc6⟩; obtain rfl := hr6 rfl; obtain ⟨lb', lc', fb', fc', mb', mc', ca', cc', qa', qc', oa', oc', da', dc', pg', a', rfl, hg6⟩ := hd6; (first | (have bb := ((BoxG.new wr [.slice none 0 0, .slice none 0 0, .slice none 0 0, .int .i64 0, .slice none 0 0, .int .i64 0, .slice none 0 0, .slice none 0 0, .slice none 0 0, .int .i64 0, .int .i64 0] 33 rfl).ext (by first | with_reducible exact Ext.refl _ | with_reducible exact (Ext.refl _).drew | with_reducible exact (Ext.refl _).drewN _ | fail)).chg hc6 n9; have bb0 := bb.c 0 _ rfl; have bb1 := bb.c 1 _ rfl; have bb2 := bb.c 2 _ rfl; have bb3 := bb.c 3 _ rfl; have bb4 := bb.c 4 _ rfl; have bb5 := bb.c 5 _ rfl; have bb6 := bb.c 6 _ rfl; have bb7 := bb.c 7 _ rfl; have bb8 := bb.c 8 _ rfl; have bb9 := bb.c 9 _ rfl; have bb10 := bb.c 10 _ rfl; have bf0 := bb.f 0; have bf1 := bb.f 1; have bf2 := bb.f 2; have bf3 := bb.f 3; have bf4 := bb.f 4; have bf5 := bb.f 5; have bf6 := bb.f 6; have bf7 := bb.f 7; have bf8 := bb.f 8; have bf9 := bb.f 9; have bf10 := bb.f 10) | skip); have kb := (PR.out.box.ext (by repeat (first | with_reducible exact Ext.refl _ | with_reducible refine Ext.drew ?_ | with_reducible refine Ext.drewN ?_ _ | with_reducible refine Ext.alloc ?_ _))).chg hc6 nq; have k0 := kb.c 0 _ rfl; have k1 := kb.c 1 _ rfl; have k2 := kb.c 2 _ rfl; have k3 := kb.c 3 _ rfl; have k4 := kb.c 4 _ rfl; have k5 := kb.c 5 _ rfl; have k6 := kb.c 6 _ rfl; have k7 := kb.c 7 _ rfl; have k8 := kb.c 8 _ rfl; have k9 := kb.c 9 _ rfl; have k10 := kb.c 10 _ rfl; have k11 := Chg.cell hc6 na (Ext.cell (by repeat (first | with_reducible exact Ext.refl _ | with_reducible refine Ext.drew ?_ | with_reducible refine Ext.drewN ?_ _ | with_reducible refine Ext.alloc ?_ _)) c0); have k12 := Chg.cell hc6 na (Ext.cell (by repeat (first | with_reducible exact Ext.refl _ | with_reducible refine Ext.drew ?_ | with_reducible refine Ext.drewN ?_ _ | with_reducible refine Ext.alloc ?_ _)) c1); unfold gvs))
        · obtain ⟨g2, hg2⟩ : ∃ g2, actG c t n g y.what y.slot = g2 := ⟨_, rfl⟩
          rw [hg2] at ho6 hg6 ⊢
          obtain ⟨yb, hyb⟩ : ∃ yb, w6.heap.size = yb := ⟨_, rfl⟩
          obtain ⟨W7, hW7⟩ : ∃ W, w6.alloc (.cells #[.slice (some ⟨lb', 0, none⟩) (nS c t) lc', .slice (some ⟨fb', 0, none⟩) (nG c t) fc', .slice (some ⟨mb', 0, none⟩) (nG c t) mc', .int .i64 (wordsOf c t), .slice ca' c.cl.length cc', .int .i64 n, .slice qa' g2.q.length qc', .slice oa' g2.ow.length oc', .slice da' g2.di.length dc', .int .i64 pg', .int .i64 a'] 33) = W := ⟨_, rfl⟩
          have x7 : Ext w6 W7 := by rw [← hW7]; exact (Ext.refl _).alloc _
          have BX : Hid (BoxG W7 yb [.slice (some ⟨lb', 0, none⟩) (nS c t) lc', .slice (some ⟨fb', 0, none⟩) (nG c t) fc', .slice (some ⟨mb', 0, none⟩) (nG c t) mc', .int .i64 (wordsOf c t), .slice ca' c.cl.length cc', .int .i64 n, .slice qa' g2.q.length qc', .slice oa' g2.ow.length oc', .slice da' g2.di.length dc', .int .i64 pg', .int .i64 a']) := Lib.hid (by rw [← hW7]; exact BoxG.new w6 _ _ hyb)
          have HO7 := Lib.hid (ho6.go x7)
          have HD7 := Lib.hid ((hg6.ext x7).mono (P' := grZ b og dg rg zq) fun k e => .inl e)
          have HC7 : Hid (Chg (grB b og dg rg) wr W7) := Lib.hid (((Chg.of_ext (by repeat (first | with_reducible exact Ext.refl _ | with_reducible refine Ext.drew ?_ | with_reducible refine Ext.drewN ?_ _ | with_reducible refine Ext.alloc ?_ _))).trans hc6).trans (Chg.of_ext x7))
          have z6 : zq < yb := by have := kb.lt; omega
          rw [hW7, hyb]
          clear hW7 hyb x7
          have nyq : ¬ zq = yb := by omega
          clear ho6 hg6 hc6 k0 k1 k2 k3 k4 k5 k6 k7 k8 k9 k10 k11 k12 kb
          obtain ⟨m, hm⟩ : ∃ m, owedG g2 = m := ⟨_, rfl⟩
          obtain ⟨re, hre⟩ : ∃ re, emptyG g2 = re := ⟨_, rfl⟩
          have EM := Lib.hid hm; have ER := Lib.hid hre
          have EG := Lib.hid hg2
          clear hm hre hg2
          have p0 := BX.out.c 0 _ rfl; have p1 := BX.out.c 1 _ rfl; have p2 := BX.out.c 2 _ rfl; have p3 := BX.out.c 3 _ rfl; have p4 := BX.out.c 4 _ rfl; have p5 := BX.out.c 5 _ rfl; have p6 := BX.out.c 6 _ rfl; have p7 := BX.out.c 7 _ rfl; have p8 := BX.out.c 8 _ rfl; have p9 := BX.out.c 9 _ rfl; have p10 := BX.out.c 10 _ rfl
          have ly := BX.out.lt
          have d0 := fun d os => cell_regrown p0 d os; have d1 := fun d os => cell_regrown p1 d os; have d2 := fun d os => cell_regrown p2 d os; have d3 := fun d os => cell_regrown p3 d os; have d4 := fun d os => cell_regrown p4 d os; have d5 := fun d os => cell_regrown p5 d os; have d6 := fun d os => cell_regrown p6 d os; have d7 := fun d os => cell_regrown p7 d os; have d8 := fun d os => cell_regrown p8 d os; have d9 := fun d os => cell_regrown p9 d os; have d10 := fun d os => cell_regrown p10 d os
          go_wp2_with fail
          clear p0 p1 p2 p3 p4 p5 p6 p7 p8 p9 p10 q0 q1 q2 q3 q4 q5 q6 q7 q8 q9 q10
          refine wp_region_quiet_below (by kernel_rfl) (by kernel_rfl) ?_
          repeat (any_goals (first | go_big_quiet_step ((first | (go_at_call 14; exact regs (own_Len (HO7.out.go (reg_ext _ _ _)) rfl)) | (go_at_call 19; exact regs (own_Owed (HO7.out.go (reg_ext _ _ _)) EM.out)) | (go_at_call 37; exact reg (ref17_Owed (lc := lc') (fc := fc') (mc := mc') (cc := cc') (oc := oc') (dc := dc') (HD7.out.ext (reg_ext _ _ _)) EM.out)) | (go_at_call 18; exact reg ((own_Empty re (HO7.out.go (reg_ext _ _ _)) ER.out).mono fun _ _ ⟨a, _, b⟩ => ⟨a, b⟩)) | (go_at_call 38; exact reg (ref17_Empty (lc := lc') (fc := fc') (mc := mc') (cc := cc') (oc := oc') (dc := dc') (HD7.out.ext (reg_ext _ _ _)) ER.out)))) | quiet_step ((first | (go_at_call 14; exact regs (own_Len (HO7.out.go (reg_ext _ _ _)) rfl)) | (go_at_call 19; exact regs (own_Owed (HO7.out.go (reg_ext _ _ _)) EM.out)) | (go_at_call 37; exact reg (ref17_Owed (lc := lc') (fc := fc') (mc := mc') (cc := cc') (oc := oc') (dc := dc') (HD7.out.ext (reg_ext _ _ _)) EM.out)) | (go_at_call 18; exact reg ((own_Empty re (HO7.out.go (reg_ext _ _ _)) ER.out).mono fun _ _ ⟨a, _, b⟩ => ⟨a, b⟩)) | (go_at_call 38; exact reg (ref17_Empty (lc := lc') (fc := fc') (mc := mc') (cc := cc') (oc := oc') (dc := dc') (HD7.out.ext (reg_ext _ _ _)) ER.out))))))
          refine wpQuiet_nil ?_
          intro _ hw'
          obtain ⟨⟨dq, osq⟩, hw''⟩ := hw'
          obtain ⟨WQ, hWQ⟩ := grown_ex hw''
          have xq := hWQ.2
          obtain rfl := hWQ.1
          clear hw'' hWQ
          clear d0 d1 d2 d3 d4 d5 d6 d7 d8 d9 d10
          have bx8 := BX.out.ext xq
          have p0 := bx8.c 0 _ rfl; have p1 := bx8.c 1 _ rfl; have p2 := bx8.c 2 _ rfl; have p3 := bx8.c 3 _ rfl; have p4 := bx8.c 4 _ rfl; have p5 := bx8.c 5 _ rfl; have p6 := bx8.c 6 _ rfl; have p7 := bx8.c 7 _ rfl; have p8 := bx8.c 8 _ rfl; have p9 := bx8.c 9 _ rfl; have p10 := bx8.c 10 _ rfl
          have zb := (PR.out.box.chg HC7.out nq).ext xq
          have ZB := Lib.hid zb
          have q0 := zb.c 0 _ rfl; have q1 := zb.c 1 _ rfl; have q2 := zb.c 2 _ rfl; have q3 := zb.c 3 _ rfl; have q4 := zb.c 4 _ rfl; have q5 := zb.c 5 _ rfl; have q6 := zb.c 6 _ rfl; have q7 := zb.c 7 _ rfl; have q8 := zb.c 8 _ rfl; have q9 := zb.c 9 _ rfl; have q10 := zb.c 10 _ rfl; have y0 := zb.f 0; have y1 := zb.f 1; have y2 := zb.f 2; have y3 := zb.f 3; have y4 := zb.f 4; have y5 := zb.f 5; have y6 := zb.f 6; have y7 := zb.f 7; have y8 := zb.f 8; have y9 := zb.f 9; have y10 := zb.f 10
          have lz' := zb.lt; have ly' := bx8.lt
          clear bx8 zb
          go_wp2_with fail
          go_roundw
          case rel =>
            obtain ⟨q11, qc11⟩ := ZB.out.set11 (.slice (some ⟨lb', 0, none⟩) (nS c t) lc') (.slice (some ⟨fb', 0, none⟩) (nG c t) fc') (.slice (some ⟨mb', 0, none⟩) (nG c t) mc') (.int .i64 (wordsOf c t)) (.slice ca' c.cl.length cc') (.int .i64 n) (.slice qa' g2.q.length qc') (.slice oa' g2.ow.length oc') (.slice da' g2.di.length dc') (.int .i64 pg') (.int .i64 a') _ rfl
            exact ⟨k + 1, g2, _, by omega, by omega, by go_num, Lib.hid (PR.out.step (HO7.out.go xq) ⟨lb', lc', fb', fc', mb', mc', ca', cc', qa', qc', oa', oc', da', dc', pg', a', rfl, HD7.out.ext xq⟩ qc11 q11)⟩
          case measure => simp [intOf] <;> omega
        · obtain ⟨g2, hg2⟩ : ∃ g2, actG c t n g y.what y.slot = g2 := ⟨_, rfl⟩
          rw [hg2] at ho6 hg6 ⊢
          have HB := Lib.hid bb
          clear bb0 bb1 bb2 bb3 bb4 bb5 bb6 bb7 bb8 bb9 bb10 bf0 bf1 bf2 bf3 bf4 bf5 bf6 bf7 bf8 bf9 bf10 bb
          refine BoxG.then11 (Q := Exit.then _ _ _ _) HB.out ?_
          intro W7 q11 qc11
          obtain ⟨yb, hyb⟩ : ∃ yb, wr.heap.size = yb := ⟨_, rfl⟩
          have z6 : zq < yb := by omega
          have HO7 := Lib.hid (ho6.off (by have := nbz.out; omega) qc11 (Nat.le_trans PR.out.lz (Nat.le_of_lt lz)))
          have HD7 := Lib.hid ((hg6.chg qc11 (fun k e => by rw [e]; exact .inr ⟨Nat.le_refl _, by simp⟩)).mono (P' := grZ b og dg rg zq) fun k e => .inl e)
          have HC7 : Hid (Chg (grB b og dg rg) wr W7) := Lib.hid (((Chg.of_ext (by repeat (first | with_reducible exact Ext.refl _ | with_reducible refine Ext.drew ?_ | with_reducible refine Ext.drewN ?_ _ | with_reducible refine Ext.alloc ?_ _))).trans hc6).new (qc11.mono fun k e => by rw [e]; exact Nat.le_refl _))
          rw [hyb] at q11 ⊢
          have BX := Lib.hid q11
          clear q11 qc11 hyb
          have nyq : ¬ zq = yb := by omega
          clear ho6 hg6 hc6 k0 k1 k2 k3 k4 k5 k6 k7 k8 k9 k10 k11 k12 kb
          obtain ⟨m, hm⟩ : ∃ m, owedG g2 = m := ⟨_, rfl⟩
          obtain ⟨re, hre⟩ : ∃ re, emptyG g2 = re := ⟨_, rfl⟩
          have EM := Lib.hid hm; have ER := Lib.hid hre
          have EG := Lib.hid hg2
          clear hm hre hg2
          have p0 := BX.out.c 0 _ rfl; have p1 := BX.out.c 1 _ rfl; have p2 := BX.out.c 2 _ rfl; have p3 := BX.out.c 3 _ rfl; have p4 := BX.out.c 4 _ rfl; have p5 := BX.out.c 5 _ rfl; have p6 := BX.out.c 6 _ rfl; have p7 := BX.out.c 7 _ rfl; have p8 := BX.out.c 8 _ rfl; have p9 := BX.out.c 9 _ rfl; have p10 := BX.out.c 10 _ rfl
          have ly := BX.out.lt
          have d0 := fun d os => cell_regrown p0 d os; have d1 := fun d os => cell_regrown p1 d os; have d2 := fun d os => cell_regrown p2 d os; have d3 := fun d os => cell_regrown p3 d os; have d4 := fun d os => cell_regrown p4 d os; have d5 := fun d os => cell_regrown p5 d os; have d6 := fun d os => cell_regrown p6 d os; have d7 := fun d os => cell_regrown p7 d os; have d8 := fun d os => cell_regrown p8 d os; have d9 := fun d os => cell_regrown p9 d os; have d10 := fun d os => cell_regrown p10 d os
          go_wp2_with fail
          clear p0 p1 p2 p3 p4 p5 p6 p7 p8 p9 p10 q0 q1 q2 q3 q4 q5 q6 q7 q8 q9 q10
          refine wp_region_quiet_below (by kernel_rfl) (by kernel_rfl) ?_
          repeat (any_goals (first | go_big_quiet_step ((first | (go_at_call 14; exact regs (own_Len (HO7.out.go (reg_ext _ _ _)) rfl)) | (go_at_call 19; exact regs (own_Owed (HO7.out.go (reg_ext _ _ _)) EM.out)) | (go_at_call 37; exact reg (ref17_Owed (lc := lc') (fc := fc') (mc := mc') (cc := cc') (oc := oc') (dc := dc') (HD7.out.ext (reg_ext _ _ _)) EM.out)) | (go_at_call 18; exact reg ((own_Empty re (HO7.out.go (reg_ext _ _ _)) ER.out).mono fun _ _ ⟨a, _, b⟩ => ⟨a, b⟩)) | (go_at_call 38; exact reg (ref17_Empty (lc := lc') (fc := fc') (mc := mc') (cc := cc') (oc := oc') (dc := dc') (HD7.out.ext (reg_ext _ _ _)) ER.out)))) | quiet_step ((first | (go_at_call 14; exact regs (own_Len (HO7.out.go (reg_ext _ _ _)) rfl)) | (go_at_call 19; exact regs (own_Owed (HO7.out.go (reg_ext _ _ _)) EM.out)) | (go_at_call 37; exact reg (ref17_Owed (lc := lc') (fc := fc') (mc := mc') (cc := cc') (oc := oc') (dc := dc') (HD7.out.ext (reg_ext _ _ _)) EM.out)) | (go_at_call 18; exact reg ((own_Empty re (HO7.out.go (reg_ext _ _ _)) ER.out).mono fun _ _ ⟨a, _, b⟩ => ⟨a, b⟩)) | (go_at_call 38; exact reg (ref17_Empty (lc := lc') (fc := fc') (mc := mc') (cc := cc') (oc := oc') (dc := dc') (HD7.out.ext (reg_ext _ _ _)) ER.out))))))
          refine wpQuiet_nil ?_
          intro _ hw'
          obtain ⟨⟨dq, osq⟩, hw''⟩ := hw'
          obtain ⟨WQ, hWQ⟩ := grown_ex hw''
          have xq := hWQ.2
          obtain rfl := hWQ.1
          clear hw'' hWQ
          clear d0 d1 d2 d3 d4 d5 d6 d7 d8 d9 d10
          have bx8 := BX.out.ext xq
          have p0 := bx8.c 0 _ rfl; have p1 := bx8.c 1 _ rfl; have p2 := bx8.c 2 _ rfl; have p3 := bx8.c 3 _ rfl; have p4 := bx8.c 4 _ rfl; have p5 := bx8.c 5 _ rfl; have p6 := bx8.c 6 _ rfl; have p7 := bx8.c 7 _ rfl; have p8 := bx8.c 8 _ rfl; have p9 := bx8.c 9 _ rfl; have p10 := bx8.c 10 _ rfl
          have zb := (PR.out.box.chg HC7.out nq).ext xq
          have ZB := Lib.hid zb
          have q0 := zb.c 0 _ rfl; have q1 := zb.c 1 _ rfl; have q2 := zb.c 2 _ rfl; have q3 := zb.c 3 _ rfl; have q4 := zb.c 4 _ rfl; have q5 := zb.c 5 _ rfl; have q6 := zb.c 6 _ rfl; have q7 := zb.c 7 _ rfl; have q8 := zb.c 8 _ rfl; have q9 := zb.c 9 _ rfl; have q10 := zb.c 10 _ rfl; have y0 := zb.f 0; have y1 := zb.f 1; have y2 := zb.f 2; have y3 := zb.f 3; have y4 := zb.f 4; have y5 := zb.f 5; have y6 := zb.f 6; have y7 := zb.f 7; have y8 := zb.f 8; have y9 := zb.f 9; have y10 := zb.f 10
          have lz' := zb.lt; have ly' := bx8.lt
          clear bx8 zb
          go_wp2_with fail
          go_roundw
          case rel =>
            obtain ⟨q11, qc11⟩ := ZB.out.set11 (.slice (some ⟨lb', 0, none⟩) (nS c t) lc') (.slice (some ⟨fb', 0, none⟩) (nG c t) fc') (.slice (some ⟨mb', 0, none⟩) (nG c t) mc') (.int .i64 (wordsOf c t)) (.slice ca' c.cl.length cc') (.int .i64 n) (.slice qa' g2.q.length qc') (.slice oa' g2.ow.length oc') (.slice da' g2.di.length dc') (.int .i64 pg') (.int .i64 a') _ rfl
            exact ⟨k + 1, g2, _, by omega, by omega, by go_num, Lib.hid (PR.out.step (HO7.out.go xq) ⟨lb', lc', fb', fc', mb', mc', ca', cc', qa', qc', oa', oc', da', dc', pg', a', rfl, HD7.out.ext xq⟩ qc11 q11)⟩
          case measure => simp [intOf] <;> omega
      all_goals
        go_wp2_with fail
        refine (law17_awake _ PR.out.own.tab).mono ?_
        rintro e w8 ⟨rfl, x8⟩
        go_wp2_with fail
        go_ret
        exact ⟨rfl, X0.out.trans (PR.out.own.ext.trans x8)⟩
  · have CM := Lib.hid (law17_made_no c tn (by
      by_cases h1 : bigA c = true
      · exact .inl h1
      · exact .inr fun h2 => hg ⟨by simpa using h1, h2⟩) (H.out.ext X0.out))
    clear hg
    go_enter Tryd.func8, Tryd.ntmps8
    go_wp2_with fail
    clear b0 b1 b2 b3 b4 b5
    refine CM.out.mono ?_
    rintro e w1 ⟨rfl, x1⟩
    have X1 := Lib.hid x1
    clear x1 CM
    go_wp2_with fail
    refine (law17_awake _ (HT.out.ext (X0.out.trans (X1.out.trans ((Ext.refl _).alloc _))))).mono ?_
    rintro e w2 ⟨rfl, x2⟩
    go_wp2_with fail
    go_ret
    exact ⟨rfl, X0.out.trans (X1.out.trans (((Ext.refl _).alloc _).trans x2))⟩

end Go.Proofs.YtlhajoamebfniaaDoor

/-! commonagelaw17: GreyQueue. (Printed by wip/gen17q.py.) -/
namespace Go.Proofs.YtlhajoamebfniaaDoor
open Go.RowKit
variable {w0 w w' wr W : World} {b pb gp ob og db dg rg zq : Nat} {c : Conf} {t n : Nat} {g g' : GS} {V V' : List Value}

/-- A grey of a queue, and nothing else. -/
def qG (c : Conf) (t : Nat) (q : List Int) : GS := { clearG c t with q := q }
theorem bcnt_rep (n : Nat) : ∀ k, bcnt (List.replicate n false) k = 0
  | 0 => rfl
  | k + 1 => by rw [bcnt_succ, bcnt_rep n k, bnth_rep0]; rfl
theorem clearG_owed : owedG (clearG c t) = 0 := bcnt_rep _ _
theorem clearG_empty : emptyG (clearG c t) = true := by
  unfold emptyG
  rw [clearG_owed]
  exact decide_eq_true ⟨rfl, rfl, rfl⟩
theorem clearG_next : nextG (clearG c t) = (clearG c t, 0, false) := rfl
theorem clearG_walk : walkG c t (clearG c t) = (clearG c t, 0, false, false) := by
  unfold walkG
  rw [if_pos (show (clearG c t).at_ = (clearG c t).en from rfl), if_pos (show (clearG c t).q.length = 0 from rfl)]
  have : fstD (clearG c t).di = none := by
    cases h : fstD (clearG c t).di with
    | none => rfl
    | some p =>
      obtain ⟨_, h2, _⟩ := fstD_some h
      rw [show (clearG c t).di = List.replicate (nG c t) false from rfl, bnth_rep0] at h2
      cases h2
  rw [this]
theorem qG_put {q : List Int} {j : Nat} (h : q.length < n) (hj : j < nS c t) : putG c t n (qG c t q) (j : Int) = (qG c t (q ++ [(j : Int)]), 0) := by
  unfold putG
  rw [if_neg (by omega), if_pos (show (qG c t q).q.length < n from h)]
  rfl
theorem qG_next {q : List Int} {x : Int} : nextG (qG c t (x :: q)) = (qG c t q, x, true) := rfl

/-- A grey, and a box behind its blocks that stays as it is. -/
structure BG (w0 : World) (b pb gp ob og db dg rg zq : Nat) (c : Conf) (t n : Nat) (V : List Value) (g : GS) (wr : World) : Prop where
  own : OwnG w0 wr b pb gp ob og db dg rg c t n g
  box : BoxG wr zq V
  lz : w0.heap.size ≤ zq
  nb : b < zq ∧ pb < zq ∧ gp < zq ∧ ob < zq ∧ og < zq ∧ db < zq ∧ dg < zq ∧ rg < zq ∧ 0 < zq
theorem BG.gb (h : BG w0 b pb gp ob og db dg rg zq c t n V g wr) : ∀ k, grB b og dg rg k → k < zq := by have := h.nb; unfold grB; omega
theorem BG.go (h : BG w0 b pb gp ob og db dg rg zq c t n V g wr) (hx : Ext wr w') : BG w0 b pb gp ob og db dg rg zq c t n V g w' := ⟨h.own.go hx, h.box.ext hx, h.lz, h.nb⟩
theorem BG.turn (h : BG w0 b pb gp ob og db dg rg zq c t n V g wr) (ho : OwnG w0 w' b pb gp ob og db dg rg c t n g') (hc : Chg (grB b og dg rg) wr w') : BG w0 b pb gp ob og db dg rg zq c t n V g' w' :=
  ⟨ho, h.box.chg hc (fun q => by have := h.gb _ q; omega), h.lz, h.nb⟩
theorem BG.past {Q : Nat → Prop} (h : BG w0 b pb gp ob og db dg rg zq c t n V g wr) (hc : Chg Q wr w') (hq : ∀ k, Q k → zq < k) : BG w0 b pb gp ob og db dg rg zq c t n V g w' := by
  obtain ⟨f, hf⟩ := h.own.gr
  have nb := h.nb; have lz := h.lz
  have ne : ∀ x, x ≤ zq → ¬ Q x := fun x hx q => by have := hq x q; omega
  exact ⟨⟨⟨f, hf.chg hc (ne _ (by omega)) ⟨ne _ (by omega), ne _ (by omega)⟩ ⟨ne _ (by omega), ne _ (by omega)⟩ ⟨ne _ (by omega), ne _ (by omega)⟩ (ne _ (by omega))⟩, h.own.tab.chg hc (ne _ (by omega)), hc.over h.own.ext fun k e => by have := hq k e; omega, h.own.low⟩, h.box.chg hc (ne _ (Nat.le_refl _)), lz, nb⟩

set_option maxRecDepth 100000 in
set_option maxHeartbeats 16000000 in
theorem law17_GreyQueue {ca0 ta xa la : Option Addr} {cc0 tc xcc lcc : Nat} (c : Conf) (xs : List Int) (l : List GAct) (w : World) (hT : Tab w) (h : CfgAt w ca0 ta cc0 tc c) (hxs : At .u8 w xa xs) (hxb : ∀ i, i < xs.length → 0 ≤ nth xs i ∧ nth xs i ≤ 255) (hxm : xs.length ≤ maxLen) (hl : GActAt w la l) (hlm : l.length ≤ maxLen) :
    Calls Tryd.prog 9 #[.agg #[.slice ca0 c.cl.length cc0, .int .i64 c.page, .slice ta c.ts.length tc, .int .i64 c.wk, .int .i64 c.gr, .int .i64 c.gens], .slice xa xs.length xcc, .slice la l.length lcc] w fun e w' => e = .returned (.bool true) ∧ Ext w w' := by
  obtain ⟨j0, hj0, jz0, jz1, jz2⟩ := info_parts ginfo_i64
  have H := Lib.hid h; have HL := Lib.hid hl; have HT := Lib.hid hT
  have HX := Lib.hid hxs; have HXB := Lib.hid hxb
  unfold maxLen at hlm hxm
  clear h hl hT hxs hxb
  obtain ⟨z, hz⟩ : ∃ z, w.heap.size = z := ⟨_, rfl⟩
  have HZ := Lib.hid hz
  obtain ⟨W0, hW0⟩ : ∃ W0, w.alloc (.cells #[.slice ca0 c.cl.length cc0, .int .i64 c.page, .slice ta c.ts.length tc, .int .i64 c.wk, .int .i64 c.gr, .int .i64 c.gens] 25) = W0 := ⟨_, rfl⟩
  have X0 : Hid (Ext w W0) := Lib.hid (by rw [← hW0]; exact (Ext.refl _).alloc _)
  have B0 : Hid (BoxG W0 z [.slice ca0 c.cl.length cc0, .int .i64 c.page, .slice ta c.ts.length tc, .int .i64 c.wk, .int .i64 c.gr, .int .i64 c.gens]) := Lib.hid (by rw [← hW0]; exact BoxG.new w _ _ hz)
  have b0 := B0.out.c 0 _ rfl; have b1 := B0.out.c 1 _ rfl; have b2 := B0.out.c 2 _ rfl; have b3 := B0.out.c 3 _ rfl; have b4 := B0.out.c 4 _ rfl; have b5 := B0.out.c 5 _ rfl
  by_cases hg : bigA c = false ∧ kcheck c = 0
  · obtain ⟨hg, h0⟩ := hg
    have ho := kcheck_ok h0
    obtain ⟨t, hmod, hi⟩ := mod_nat (tn := 0) ho.head.2.2.1
    obtain ⟨n, hn⟩ := cfg_gr h0
    have HN := Lib.hid hn
    have CM := Lib.hid (law17_made c 0 (HT.out.ext X0.out) hg h0 (by decide) hi hmod hn (H.out.ext X0.out))
    have n64 : 1 ≤ n ∧ n ≤ 64 := by have := ho.head.2.2.2.2.2.2.1; have := ho.head.2.2.2.2.2.2.2.1; omega
    have sp := ho.nS_pos hi; have sl := ho.nS_le hi
    clear hg h0 ho hmod hn
    go_enter Tryd.func9, Tryd.ntmps9
    go_wp2_with fail
    clear b0 b1 b2 b3 b4 b5
    refine CM.out.mono ?_
    rintro e w1 ⟨b, pb, gp, ob, og, db, dg, rg, V, rfl, ho, hd⟩
    have HO := Lib.hid ho
    have HDG := Lib.hid hd
    obtain ⟨lb, lc, fb, fc, mb, mc, ca, cc, qa, qc, oa, oc, da, dc, pg, a, rfl, hd⟩ := hd
    clear ho hd CM
    unfold gvs at HDG ⊢
    go_wp2_with fail
    obtain ⟨zq, hzq⟩ : ∃ zq, w1.heap.size = zq := ⟨_, rfl⟩
    obtain ⟨W1, hW1⟩ : ∃ W, w1.alloc (.cells #[.slice (some ⟨lb, 0, none⟩) (nS c t) lc, .slice (some ⟨fb, 0, none⟩) (nG c t) fc, .slice (some ⟨mb, 0, none⟩) (nG c t) mc, .int .i64 (wordsOf c t), .slice ca c.cl.length cc, .int .i64 n, .slice qa (clearG c t).q.length qc, .slice oa (clearG c t).ow.length oc, .slice da (clearG c t).di.length dc, .int .i64 pg, .int .i64 a] 33) = W := ⟨_, rfl⟩
    have HP : Hid (PlayG W0 b pb gp ob og db dg rg zq c t n (clearG c t) (clearG c t) [.slice (some ⟨lb, 0, none⟩) (nS c t) lc, .slice (some ⟨fb, 0, none⟩) (nG c t) fc, .slice (some ⟨mb, 0, none⟩) (nG c t) mc, .int .i64 (wordsOf c t), .slice ca c.cl.length cc, .int .i64 n, .slice qa (clearG c t).q.length qc, .slice oa (clearG c t).ow.length oc, .slice da (clearG c t).di.length dc, .int .i64 pg, .int .i64 a] W1) := Lib.hid (by
      rw [← hW1]
      exact PlayG.start HO.out HDG.out hzq 33)
    have LW : Hid (W1.heap.size = zq + 1) := Lib.hid (by rw [← hW1]; simp [hzq])
    rw [hW1, hzq]
    clear HO HDG hW1 hzq
    go_loopw [9] (fun kv wr => ∃ (k : Nat) (g : GS), k ≤ l.length ∧ k ≤ 60 ∧ kv = .int .i64 k ∧ Hid (PlayG W0 b pb gp ob og db dg rg zq c t n g (clearG c t) [.slice (some ⟨lb, 0, none⟩) (nS c t) lc, .slice (some ⟨fb, 0, none⟩) (nG c t) fc, .slice (some ⟨mb, 0, none⟩) (nG c t) mc, .int .i64 (wordsOf c t), .slice ca c.cl.length cc, .int .i64 n, .slice qa (clearG c t).q.length qc, .slice oa (clearG c t).ow.length oc, .slice da (clearG c t).di.length dc, .int .i64 pg, .int .i64 a] wr)) (fun kv _ => 60 - (intOf kv).toNat)
    case atStart => exact ⟨0, _, Nat.zero_le _, Nat.zero_le _, rfl, HP⟩
    case round =>
      clear HP
      obtain ⟨k, g, hk, hk60, rfl, PR⟩ := hrel
      rcases (show (k < l.length ∧ k < 60) ∨ (k < l.length ∧ k = 60) ∨ k = l.length by omega) with ⟨hlt, h60⟩ | ⟨hlt, rfl⟩ | rfl
      · obtain ⟨ok, ab, ao, rfl, c0, c1⟩ := HL.out k hlt
        have OK := Lib.hid ok
        have XW := Lib.hid (X0.out.trans PR.out.own.ext)
        replace c0 := XW.out.cell c0; replace c1 := XW.out.cell c1
        clear ok
        generalize gActnth l k = y at *
        have q0 := PR.out.box.c 0 _ rfl; have q1 := PR.out.box.c 1 _ rfl; have q2 := PR.out.box.c 2 _ rfl; have q3 := PR.out.box.c 3 _ rfl; have q4 := PR.out.box.c 4 _ rfl; have q5 := PR.out.box.c 5 _ rfl; have q6 := PR.out.box.c 6 _ rfl; have q7 := PR.out.box.c 7 _ rfl; have q8 := PR.out.box.c 8 _ rfl; have q9 := PR.out.box.c 9 _ rfl; have q10 := PR.out.box.c 10 _ rfl
        have lz : zq < wr.heap.size := PR.out.box.lt
        have nq : ¬ grB b og dg rg zq := PR.out.ng
        have hk0 : (0 : Int) ≤ (k : Int) := Int.natCast_nonneg _
        have hk1 : (k : Int) < (l.length : Int) := by omega
        go_wp2_with fail
        go_region_with ((go_at_call 36; refine (law17_does_in PR.out ?_ OK.out.1).mono ?_; (repeat (first | with_reducible exact Ext.refl _ | with_reducible refine Ext.drew ?_ | with_reducible refine Ext.drewN ?_ _ | with_reducible refine Ext.alloc ?_ _)); rintro e w6 ⟨V6, r6, rfl, hr6, ho6, hd6, hc6⟩))
        all_goals
          have P6 : Hid (PlayG W0 b pb gp ob og db dg rg zq c t n _ (clearG c t) [.slice (some ⟨lb, 0, none⟩) (nS c t) lc, .slice (some ⟨fb, 0, none⟩) (nG c t) fc, .slice (some ⟨mb, 0, none⟩) (nG c t) mc, .int .i64 (wordsOf c t), .slice ca c.cl.length cc, .int .i64 n, .slice qa (clearG c t).q.length qc, .slice oa (clearG c t).ow.length oc, .slice da (clearG c t).di.length dc, .int .i64 pg, .int .i64 a] w6) := Lib.hid ⟨ho6, (PR.out.doc.ext (by repeat (first | with_reducible exact Ext.refl _ | with_reducible refine Ext.drew ?_ | with_reducible refine Ext.drewN ?_ _ | with_reducible refine Ext.alloc ?_ _))).chg hc6 (fun k e => .inl e), (PR.out.box.ext (by repeat (first | with_reducible exact Ext.refl _ | with_reducible refine Ext.drew ?_ | with_reducible refine Ext.drewN ?_ _ | with_reducible refine Ext.alloc ?_ _))).chg hc6 nq, PR.out.lz, PR.out.nb⟩
          clear ho6 hd6 hc6 hr6 q0 q1 q2 q3 q4 q5 q6 q7 q8 q9 q10 c0 c1
          go_wp2_with fail
          go_roundw
          case rel => exact ⟨k + 1, _, by omega, by omega, by go_num, P6⟩
          case measure => simp [intOf] <;> omega
      all_goals
        go_wp2_with fail
        refine (own_Clear PR.out.own).mono ?_
        rintro e w2 ⟨rfl, ho2, hc2⟩
        have P2 : Hid (BG W0 b pb gp ob og db dg rg zq c t n [.slice (some ⟨lb, 0, none⟩) (nS c t) lc, .slice (some ⟨fb, 0, none⟩) (nG c t) fc, .slice (some ⟨mb, 0, none⟩) (nG c t) mc, .int .i64 (wordsOf c t), .slice ca c.cl.length cc, .int .i64 n, .slice qa (clearG c t).q.length qc, .slice oa (clearG c t).ow.length oc, .slice da (clearG c t).di.length dc, .int .i64 pg, .int .i64 a] (clearG c t) w2) := Lib.hid ⟨ho2, PR.out.box.chg hc2 PR.out.ng, PR.out.lz, PR.out.nb⟩
        clear ho2 hc2 PR
        go_wp2_with fail
        refine (own_Empty true P2.out.own clearG_empty).mono ?_
        rintro e w3 ⟨rfl, _, x3⟩
        have P3 := Lib.hid (P2.out.go x3)
        clear x3 P2
        go_wp2_with fail
        refine (own_Len (m := 0) P3.out.own rfl).mono ?_
        rintro e w' ⟨rfl, rfl⟩
        go_wp2_with fail
        refine (own_Owed (m := 0) P3.out.own clearG_owed).mono ?_
        rintro e w' ⟨rfl, rfl⟩
        go_wp2_with fail
        go_loopw [10, 11] (fun pv iv wr => ∃ ps : List Int, ps.length ≤ xs.length ∧ ps.length ≤ n ∧ iv = .int .i64 ps.length ∧ Hid (wr.ownsRow W1.heap.size 3 1 pv ps.length (ncs .i64 ps)) ∧ Hid (BG W0 b pb gp ob og db dg rg zq c t n [.slice (some ⟨lb, 0, none⟩) (nS c t) lc, .slice (some ⟨fb, 0, none⟩) (nG c t) fc, .slice (some ⟨mb, 0, none⟩) (nG c t) mc, .int .i64 (wordsOf c t), .slice ca c.cl.length cc, .int .i64 n, .slice qa (clearG c t).q.length qc, .slice oa (clearG c t).ow.length oc, .slice da (clearG c t).di.length dc, .int .i64 pg, .int .i64 a] (qG c t ps) wr)) (fun _ iv _ => n - (intOf iv).toNat)
        case atStart => exact ⟨[], Nat.zero_le _, Nat.zero_le _, rfl, Lib.hid (World.ownsRow_nil _ _ _ _), P3⟩
        case round =>
          clear P3
          obtain ⟨ps, hi1, hi2, rfl, HR, PB⟩ := hrel
          have b4 : wr.cell? ⟨z, 4, none⟩ = some (.int .i64 (n : Int)) := by rw [← HN.out]; exact PB.out.own.ext.cell (B0.out.c 4 _ rfl)
          rcases (show (ps.length < xs.length ∧ ps.length < n) ∨ (ps.length < xs.length ∧ ps.length = n) ∨ ps.length = xs.length by omega) with ⟨h1, h2⟩ | ⟨h1, h2⟩ | h2
          · obtain ⟨xb, xo, rfl, xcells⟩ := HX.out.pos (by omega)
            have cx := (X0.out.trans PB.out.own.ext).cell (xcells ps.length h1)
            have xr := HXB.out ps.length h1
            clear xcells
            generalize nth xs ps.length = x at *
            obtain ⟨j, hj, hjl⟩ := mod_nat (tn := x) (n := nS c t) sp
            have hmt : x.tmod (nS c t : Int) = (j : Int) := by rw [Int.tmod_eq_emod_of_nonneg xr.1]; exact hj
            have hwx : IntKind.i64.wrap x = x := IntWalk.i64_in _ (by omega)
            have hwj : IntKind.i64.wrap (j : Int) = j := IntWalk.i64_in _ (by omega)
            have nz : ¬ nS c t = 0 := by omega
            have nzi : ¬ (nS c t : Int) = 0 := by omega
            have i0 : (0 : Int) ≤ (ps.length : Int) := Int.natCast_nonneg _
            have i1 : (ps.length : Int) < (xs.length : Int) := by omega
            have bz : z < wr.heap.size := cell_lt b4
            have q0 := PB.out.box.c 0 _ rfl
            have JL := Lib.hid hjl
            clear hj hjl
            go_upto_region 15 with fail
            have d0 := fun d os => cell_regrown q0 d os; have dx := fun d os => cell_regrown cx d os
            clear q0 cx
            refine wp_region_quiet_below (by kernel_rfl) (by kernel_rfl) ?_
            repeat (any_goals (first | go_big_quiet_step (fail) | quiet_step (fail)))
            refine wpQuiet_nil ?_
            intro _ hw'
            obtain ⟨⟨dq, osq⟩, hw''⟩ := hw'
            obtain ⟨WQ, hWQ⟩ := grown_ex hw''
            have xq := hWQ.2
            obtain rfl := hWQ.1
            clear hw'' hWQ
            clear d0 dx
            replace PB := Lib.hid (PB.out.go xq)
            replace HR := Lib.hid (own_ext HR.out xq)
            clear xq b4 bz hmt hwx nz nzi xr
            go_wp2_with fail
            refine (own_Put PB.out.own (qG_put h2 JL.out)).mono ?_
            rintro e w6 ⟨rfl, ho6, hc6⟩
            replace PB := Lib.hid (PB.out.turn ho6 hc6)
            replace HR := Lib.hid (own_chg HR.out hc6 (fun k hk => by have := PB.out.gb k hk; have := LW.out; omega))
            clear ho6 hc6
            have q0 := PB.out.box.c 0 _ rfl; have q1 := PB.out.box.c 1 _ rfl; have q2 := PB.out.box.c 2 _ rfl; have q3 := PB.out.box.c 3 _ rfl; have q4 := PB.out.box.c 4 _ rfl
            have bq := PB.out.box.lt
            go_wp2_with fail
            have HAS := ref09_Has (lb := lb) (lc := lc) (fb := fb) (fc := fc) (mb := mb) (mc := mc) (ca := ca) (cc := cc) (c := c) (t := t) (s := (j : Int)) (w := w6) true (by have := JL.out; simpa using this)
            unfold dpv at HAS
            refine HAS.mono ?_
            rintro e w7 ⟨rfl, x7⟩
            replace PB := Lib.hid (PB.out.go x7)
            replace HR := Lib.hid (own_ext HR.out x7)
            clear x7 HAS q0 q1 q2 q3 q4 bq
            have BL := Lib.hid (show W1.heap.size ≤ w7.heap.size by have := PB.out.box.lt; have := LW.out; omega)
            go_wp2_with (at_builtin; refine wpList_append_own _ rfl (.tmp 94) (.tmp 96) 22 rfl W1.heap.size 3 j0 (.int .i64 0) 1 8 Tryd.underlying22 hj0 jz0 jz1 jz2 rfl (by decide) u10 ps.length (ncs .i64 ps) rfl (own_ext HR.out ((Ext.refl w7).alloc _)) ⟨w7.heap.size, 0, none⟩ 1 1 [.int .i64 (j : Int)] rfl rfl (news1 _ _ _) (one1 rfl) (by unfold maxLen; omega) (by omega) (by have := BL.out; simp; omega) ?_; intro v' w8 hown hgrow hnil; rw [ncs_snoc] at hown; have PB8 := Lib.hid ((PB.out.go ((Ext.refl w7).alloc (.cells #[.int .i64 (j : Int)] 3))).past (Chg.of_grown hgrow) (fun k e => by have := (HR.out.lt k e.symm).1; have := LW.out; omega)); have HR8 := Lib.hid hown; clear hown hgrow hnil)
            go_roundw
            case rel => exact ⟨ps ++ [(j : Int)], by simp; omega, by simp; omega, by simp, by rw [List.length_append]; exact HR8, PB8⟩
            case measure => simp [intOf]; omega
          · have t2 : decide (ps.length < n) = false := decide_eq_false (by omega)
            have t2' : decide ((ps.length : Int) < (n : Int)) = false := decide_eq_false (by omega)
            have t1 : decide (ps.length < xs.length) = true := decide_eq_true h1
            have t1' : decide ((ps.length : Int) < (xs.length : Int)) = true := decide_eq_true (by omega)
            obtain ⟨m, hm⟩ : ∃ m, ps.length = m := ⟨_, rfl⟩
            rw [hm] at t1 t2 t1' t2' HR hi1 ⊢
            have HM := Lib.hid hm
            clear h1 h2 hm
            obtain ⟨pa, pc, rfl, hnb⟩ := newInts_of (by rw [HM.out]; exact HR.out : wr.ownsRow W1.heap.size 3 1 u10 ps.length (ncs .i64 ps))
            rw [HM.out]
            have NB := Lib.hid hnb
            clear hnb HR
            have PA0 : Hid (At .i64 wr pa ps) := Lib.hid NB.out.row
            have FA : Hid (0 < ps.length → ∀ x o, pa = some ⟨x, o, none⟩ → ¬ grB b og dg rg x) := Lib.hid fun h0 x o e hk => by
              obtain ⟨g', e', h1, _⟩ := NB.out.own h0
              rw [e'] at e; cases e
              have := PB.out.gb _ hk; have := LW.out; omega
            go_upto_region 20 with fail
            go_loopw [13] (fun iv wr => ∃ i : Nat, i ≤ m ∧ iv = .int .i64 i ∧ Hid (BG W0 b pb gp ob og db dg rg zq c t n [.slice (some ⟨lb, 0, none⟩) (nS c t) lc, .slice (some ⟨fb, 0, none⟩) (nG c t) fc, .slice (some ⟨mb, 0, none⟩) (nG c t) mc, .int .i64 (wordsOf c t), .slice ca c.cl.length cc, .int .i64 n, .slice qa (clearG c t).q.length qc, .slice oa (clearG c t).ow.length oc, .slice da (clearG c t).di.length dc, .int .i64 pg, .int .i64 a] (qG c t (ps.drop i)) wr) ∧ Hid (At .i64 wr pa ps)) (fun iv _ => m - (intOf iv).toNat)
            case atStart => exact ⟨0, Nat.zero_le _, rfl, PB, PA0⟩
            case round =>
              clear PB PA0 NB
              obtain ⟨i, him, rfl, PB, PA⟩ := hrel
              by_cases hlt : i < m
              · obtain ⟨pb', po, rfl, pcells⟩ := PA.out.pos (by rw [HM.out]; omega)
                have ci := pcells i (by rw [HM.out]; exact hlt)
                have DN := Lib.hid (drop_nth ps i (by rw [HM.out]; exact hlt))
                have PB' : Hid (BG W0 b pb gp ob og db dg rg zq c t n [.slice (some ⟨lb, 0, none⟩) (nS c t) lc, .slice (some ⟨fb, 0, none⟩) (nG c t) fc, .slice (some ⟨mb, 0, none⟩) (nG c t) mc, .int .i64 (wordsOf c t), .slice ca c.cl.length cc, .int .i64 n, .slice qa (clearG c t).q.length qc, .slice oa (clearG c t).ow.length oc, .slice da (clearG c t).di.length dc, .int .i64 pg, .int .i64 a] (qG c t (nth ps i :: ps.drop (i + 1))) wr) := Lib.hid (by rw [← DN.out]; exact PB.out)
                have nf : ¬ grB b og dg rg pb' := FA.out (by rw [HM.out]; omega) _ _ rfl
                clear PB pcells
                generalize nth ps i = x at *
                go_wp2_with fail
                refine (own_Next PB'.out.own qG_next).mono ?_
                rintro e w6 ⟨rfl, ho6, hc6⟩
                have PB6 := Lib.hid (PB'.out.turn ho6 hc6)
                have PA6 := Lib.hid (PA.out.chg hc6 (fun b o e _ => by cases e; exact nf))
                replace ci := hc6.cell (p := ⟨pb', po + i, none⟩) nf ci
                have tx : (x != x) = false := by simp
                clear ho6 hc6
                go_wp2_with fail
                go_roundw
                case rel => exact ⟨i + 1, by omega, by go_num, PB6, PA6⟩
                case measure => simp [intOf]; omega
              · obtain rfl : i = m := by omega
                have P0 : Hid (BG W0 b pb gp ob og db dg rg zq c t n [.slice (some ⟨lb, 0, none⟩) (nS c t) lc, .slice (some ⟨fb, 0, none⟩) (nG c t) fc, .slice (some ⟨mb, 0, none⟩) (nG c t) mc, .int .i64 (wordsOf c t), .slice ca c.cl.length cc, .int .i64 n, .slice qa (clearG c t).q.length qc, .slice oa (clearG c t).ow.length oc, .slice da (clearG c t).di.length dc, .int .i64 pg, .int .i64 a] (clearG c t) wr) := Lib.hid (by
                  have := PB.out
                  rw [drop_all (by rw [HM.out]; exact Nat.le_refl _)] at this
                  exact this)
                clear PB
                go_wp2_with fail
                refine (own_Next P0.out.own clearG_next).mono ?_
                rintro e w6 ⟨rfl, ho6, hc6⟩
                have P1 := Lib.hid (P0.out.turn ho6 hc6)
                clear ho6 hc6
                go_wp2_with fail
                refine (own_Walk P1.out.own clearG_walk).mono ?_
                rintro e w7 ⟨rfl, ho6, hc6⟩
                have P2 := Lib.hid (P1.out.turn ho6 hc6)
                clear ho6 hc6
                go_wp2_with fail
                refine (own_Empty true P2.out.own clearG_empty).mono ?_
                rintro e w8 ⟨rfl, _, x8⟩
                have P3 := Lib.hid (P2.out.go x8)
                clear x8
                go_wp2_with fail
                refine (law17_awake _ P3.out.own.tab).mono ?_
                rintro e w9 ⟨rfl, x9⟩
                go_wp2_with fail
                go_ret
                exact ⟨rfl, X0.out.trans (P3.out.own.ext.trans x9)⟩
          · have t1 : decide (ps.length < xs.length) = false := decide_eq_false (by omega)
            have t1' : decide ((ps.length : Int) < (xs.length : Int)) = false := decide_eq_false (by omega)
            obtain ⟨m, hm⟩ : ∃ m, ps.length = m := ⟨_, rfl⟩
            rw [hm] at t1 t1' HR hi1 ⊢
            have HM := Lib.hid hm
            clear h2 hm
            obtain ⟨pa, pc, rfl, hnb⟩ := newInts_of (by rw [HM.out]; exact HR.out : wr.ownsRow W1.heap.size 3 1 u10 ps.length (ncs .i64 ps))
            rw [HM.out]
            have NB := Lib.hid hnb
            clear hnb HR
            have PA0 : Hid (At .i64 wr pa ps) := Lib.hid NB.out.row
            have FA : Hid (0 < ps.length → ∀ x o, pa = some ⟨x, o, none⟩ → ¬ grB b og dg rg x) := Lib.hid fun h0 x o e hk => by
              obtain ⟨g', e', h1, _⟩ := NB.out.own h0
              rw [e'] at e; cases e
              have := PB.out.gb _ hk; have := LW.out; omega
            go_upto_region 20 with fail
            go_loopw [13] (fun iv wr => ∃ i : Nat, i ≤ m ∧ iv = .int .i64 i ∧ Hid (BG W0 b pb gp ob og db dg rg zq c t n [.slice (some ⟨lb, 0, none⟩) (nS c t) lc, .slice (some ⟨fb, 0, none⟩) (nG c t) fc, .slice (some ⟨mb, 0, none⟩) (nG c t) mc, .int .i64 (wordsOf c t), .slice ca c.cl.length cc, .int .i64 n, .slice qa (clearG c t).q.length qc, .slice oa (clearG c t).ow.length oc, .slice da (clearG c t).di.length dc, .int .i64 pg, .int .i64 a] (qG c t (ps.drop i)) wr) ∧ Hid (At .i64 wr pa ps)) (fun iv _ => m - (intOf iv).toNat)
            case atStart => exact ⟨0, Nat.zero_le _, rfl, PB, PA0⟩
            case round =>
              clear PB PA0 NB
              obtain ⟨i, him, rfl, PB, PA⟩ := hrel
              by_cases hlt : i < m
              · obtain ⟨pb', po, rfl, pcells⟩ := PA.out.pos (by rw [HM.out]; omega)
                have ci := pcells i (by rw [HM.out]; exact hlt)
                have DN := Lib.hid (drop_nth ps i (by rw [HM.out]; exact hlt))
                have PB' : Hid (BG W0 b pb gp ob og db dg rg zq c t n [.slice (some ⟨lb, 0, none⟩) (nS c t) lc, .slice (some ⟨fb, 0, none⟩) (nG c t) fc, .slice (some ⟨mb, 0, none⟩) (nG c t) mc, .int .i64 (wordsOf c t), .slice ca c.cl.length cc, .int .i64 n, .slice qa (clearG c t).q.length qc, .slice oa (clearG c t).ow.length oc, .slice da (clearG c t).di.length dc, .int .i64 pg, .int .i64 a] (qG c t (nth ps i :: ps.drop (i + 1))) wr) := Lib.hid (by rw [← DN.out]; exact PB.out)
                have nf : ¬ grB b og dg rg pb' := FA.out (by rw [HM.out]; omega) _ _ rfl
                clear PB pcells
                generalize nth ps i = x at *
                go_wp2_with fail
                refine (own_Next PB'.out.own qG_next).mono ?_
                rintro e w6 ⟨rfl, ho6, hc6⟩
                have PB6 := Lib.hid (PB'.out.turn ho6 hc6)
                have PA6 := Lib.hid (PA.out.chg hc6 (fun b o e _ => by cases e; exact nf))
                replace ci := hc6.cell (p := ⟨pb', po + i, none⟩) nf ci
                have tx : (x != x) = false := by simp
                clear ho6 hc6
                go_wp2_with fail
                go_roundw
                case rel => exact ⟨i + 1, by omega, by go_num, PB6, PA6⟩
                case measure => simp [intOf]; omega
              · obtain rfl : i = m := by omega
                have P0 : Hid (BG W0 b pb gp ob og db dg rg zq c t n [.slice (some ⟨lb, 0, none⟩) (nS c t) lc, .slice (some ⟨fb, 0, none⟩) (nG c t) fc, .slice (some ⟨mb, 0, none⟩) (nG c t) mc, .int .i64 (wordsOf c t), .slice ca c.cl.length cc, .int .i64 n, .slice qa (clearG c t).q.length qc, .slice oa (clearG c t).ow.length oc, .slice da (clearG c t).di.length dc, .int .i64 pg, .int .i64 a] (clearG c t) wr) := Lib.hid (by
                  have := PB.out
                  rw [drop_all (by rw [HM.out]; exact Nat.le_refl _)] at this
                  exact this)
                clear PB
                go_wp2_with fail
                refine (own_Next P0.out.own clearG_next).mono ?_
                rintro e w6 ⟨rfl, ho6, hc6⟩
                have P1 := Lib.hid (P0.out.turn ho6 hc6)
                clear ho6 hc6
                go_wp2_with fail
                refine (own_Walk P1.out.own clearG_walk).mono ?_
                rintro e w7 ⟨rfl, ho6, hc6⟩
                have P2 := Lib.hid (P1.out.turn ho6 hc6)
                clear ho6 hc6
                go_wp2_with fail
                refine (own_Empty true P2.out.own clearG_empty).mono ?_
                rintro e w8 ⟨rfl, _, x8⟩
                have P3 := Lib.hid (P2.out.go x8)
                clear x8
                go_wp2_with fail
                refine (law17_awake _ P3.out.own.tab).mono ?_
                rintro e w9 ⟨rfl, x9⟩
                go_wp2_with fail
                go_ret
                exact ⟨rfl, X0.out.trans (P3.out.own.ext.trans x9)⟩
  · have CM := Lib.hid (law17_made_no c 0 (by
      by_cases h1 : bigA c = true
      · exact .inl h1
      · exact .inr fun h2 => hg ⟨by simpa using h1, h2⟩) (H.out.ext X0.out))
    clear hg
    go_enter Tryd.func9, Tryd.ntmps9
    go_wp2_with fail
    clear b0 b1 b2 b3 b4 b5
    refine CM.out.mono ?_
    rintro e w1 ⟨rfl, x1⟩
    have X1 := Lib.hid x1
    clear x1 CM
    go_wp2_with fail
    refine (law17_awake _ (HT.out.ext (X0.out.trans (X1.out.trans ((Ext.refl _).alloc _))))).mono ?_
    rintro e w2 ⟨rfl, x2⟩
    go_wp2_with fail
    go_ret
    exact ⟨rfl, X0.out.trans (X1.out.trans (((Ext.refl _).alloc _).trans x2))⟩

end Go.Proofs.YtlhajoamebfniaaDoor

/-! Grey in plain Lean: each slot that is put is told once; how many steps the walks make. No program is named here. -/
namespace Go.Proofs.YtlhajoamebfniaaDoor
open Go.RowKit
variable {c : Conf} {t n : Nat} {g g' : GS} {put : List Bool} {told : List Int} {S O : Nat}

/-- How many slots the dirty pages have. -/
def dsumTo (c : Conf) (t : Nat) (di : List Bool) : Nat → Nat
  | 0 => 0
  | k + 1 => dsumTo c t di k + (if bnth di k then mnN c t k else 0)
def dsum (c : Conf) (t : Nat) (di : List Bool) : Nat := dsumTo c t di di.length
theorem dsumTo_ge {di : List Bool} {p : Nat} (v : Bool) : ∀ k, k ≤ p → dsumTo c t (di.set p v) k = dsumTo c t di k
  | 0, _ => rfl
  | k + 1, h => by
    unfold dsumTo
    rw [dsumTo_ge v k (by omega)]
    by_cases hp : p < di.length
    · rw [bnth_set hp, if_neg (show ¬ k = p by omega)]
    · rw [List.set_eq_of_length_le (by omega)]
theorem dsumTo_set {di : List Bool} {p : Nat} (v : Bool) (hp : p < di.length) : ∀ k, p < k → dsumTo c t (di.set p v) k + (if bnth di p then mnN c t p else 0) = dsumTo c t di k + (if v then mnN c t p else 0)
  | 0, h => absurd h (Nat.not_lt_zero _)
  | k + 1, h => by
    unfold dsumTo
    by_cases e : p = k
    · subst e
      rw [dsumTo_ge v p (Nat.le_refl _), bnth_set hp, if_pos rfl]
      omega
    · have := dsumTo_set v hp k (by omega)
      rw [bnth_set hp, if_neg (Ne.symm e)]
      omega
theorem dsum_set {di : List Bool} {p : Nat} (v : Bool) (hp : p < di.length) : dsum c t (di.set p v) + (if bnth di p then mnN c t p else 0) = dsum c t di + (if v then mnN c t p else 0) := by
  unfold dsum
  rw [List.length_set]
  exact dsumTo_set v hp _ hp
theorem dsum_rep (m : Nat) : dsum c t (List.replicate m false) = 0 := by
  unfold dsum
  have : ∀ k, dsumTo c t (List.replicate m false) k = 0 := by
    intro k
    induction k with
    | zero => rfl
    | succ k ih => unfold dsumTo; rw [ih, bnth_rep0]; rfl
  exact this _

/-- How often a slot stands in the queue. -/
def qcnt (q : List Int) (s : Nat) : Nat := q.count (s : Int)
theorem qcnt_snoc (q : List Int) (x : Nat) (s : Nat) : qcnt (q ++ [(x : Int)]) s = qcnt q s + (if x = s then 1 else 0) := by
  unfold qcnt
  rw [List.count_append, List.count_singleton]
  by_cases h : x = s
  · subst h; simp
  · have : ¬ ((x : Int) = (s : Int)) := by omega
    simp [h, this]
theorem qcnt_cons (q : List Int) (x : Nat) (s : Nat) : qcnt ((x : Int) :: q) s = qcnt q s + (if x = s then 1 else 0) := by
  unfold qcnt
  rw [List.count_cons]
  by_cases h : x = s
  · subst h; simp
  · have : ¬ ((x : Int) = (s : Int)) := by omega
    simp [h, this]

structure GInv (c : Conf) (t n : Nat) (g : GS) (put : List Bool) (told : List Int) (S O : Nat) : Prop where
  ko : KOk c
  ti : t < c.ts.length
  ok : GOk c t n g
  pl : put.length = nS c t
  tl : told.length = nS c t
  nn : ∀ s, s < nS c t → 0 ≤ nth told s
  cnt : ∀ s, s < nS c t → nth told s + (qcnt g.q s : Int) + ((bnth g.ow s).toNat : Int) = ((bnth put s).toNat : Int)
  mark : ∀ s, s < nS c t → bnth g.ow s = true → bnth g.di (pgN c t s) = true ∨ (g.at_ ≤ s ∧ s < g.en)
  fuel : S + (g.en - g.at_) + dsum c t g.di ≤ O
def msr (c : Conf) (t : Nat) (g : GS) : Nat := g.q.length + (g.en - g.at_) + dsum c t g.di

theorem GInv.start (ko : KOk c) (ti : t < c.ts.length) : GInv c t n (clearG c t) (List.replicate (nS c t) false) (List.replicate (nS c t) 0) 0 0 := by
  refine ⟨ko, ti, clearG_ok n, List.length_replicate, List.length_replicate, fun s hs => ?_, fun s hs => ?_, fun s hs h => ?_, ?_⟩
  · simp [nth, List.getD, hs]
  · rw [show (clearG c t).q = [] from rfl, show (clearG c t).ow = List.replicate (nS c t) false from rfl, bnth_rep0]
    simp [nth, List.getD, hs, qcnt]
  · rw [show (clearG c t).ow = List.replicate (nS c t) false from rfl, bnth_rep0] at h; cases h
  · rw [show (clearG c t).di = List.replicate (nG c t) false from rfl, dsum_rep]; exact Nat.le_refl _
theorem GInv.le1 (h : GInv c t n g put told S O) {s : Nat} (hs : s < nS c t) : nth told s ≤ 1 := by
  have := h.cnt s hs
  have h2 : ((bnth put s).toNat : Int) ≤ 1 := by cases bnth put s <;> decide
  omega
/-- A slot that was not put goes into the queue. -/
theorem GInv.putQ (h : GInv c t n g put told S O) {s : Nat} (hs : s < nS c t) (hp : bnth put s = false) (hq : g.q.length < n) :
    putG c t n g (s : Int) = ({ g with q := g.q ++ [(s : Int)] }, 0) ∧ GInv c t n { g with q := g.q ++ [(s : Int)] } (put.set s true) told S O := by
  have e : putG c t n g (s : Int) = ({ g with q := g.q ++ [(s : Int)] }, 0) := by
    unfold putG; rw [if_neg (by omega), if_pos hq]
  have ok := putG_ok h.ok (s : Int)
  rw [e] at ok
  refine ⟨e, h.ko, h.ti, ok, by rw [List.length_set]; exact h.pl, h.tl, h.nn, fun x hx => ?_, h.mark, h.fuel⟩
  have := h.cnt x hx
  show nth told x + (qcnt (g.q ++ [(s : Int)]) x : Int) + _ = _
  rw [qcnt_snoc, bnth_set (by rw [h.pl]; exact hs)]
  by_cases e : x = s
  · subst e
    rw [if_pos rfl, if_pos rfl]
    rw [hp] at this
    simp at this ⊢
    omega
  · rw [if_neg (Ne.symm e), if_neg e]; simpa using this
/-- A slot that was not put is owed. -/
theorem GInv.putO (h : GInv c t n g put told S O) {s : Nat} (hs : s < nS c t) (hp : bnth put s = false) (hq : ¬ g.q.length < n) :
    putG c t n g (s : Int) = ({ g with ow := g.ow.set s true, di := g.di.set (pgN c t s) true }, 0) ∧ GInv c t n { g with ow := g.ow.set s true, di := g.di.set (pgN c t s) true } (put.set s true) told S (O + mnN c t (pgN c t s)) := by
  have e : putG c t n g (s : Int) = ({ g with ow := g.ow.set s true, di := g.di.set (pgN c t s) true }, 0) := by
    unfold putG; rw [if_neg (by omega), if_neg hq]; rfl
  have ok := putG_ok h.ok (s : Int)
  rw [e] at ok
  have sf := slFacts h.ko h.ti hs
  have ol : s < g.ow.length := by rw [h.ok.ol]; exact hs
  have dl : pgN c t s < g.di.length := by rw [h.ok.dl]; exact sf.lt
  have c0 := h.cnt s hs
  have n0 := h.nn s hs
  rw [hp] at c0
  refine ⟨e, h.ko, h.ti, ok, by rw [List.length_set]; exact h.pl, h.tl, h.nn, fun x hx => ?_, fun x hx hb => ?_, ?_⟩
  · have := h.cnt x hx
    show nth told x + (qcnt g.q x : Int) + ((bnth (g.ow.set s true) x).toNat : Int) = _
    rw [bnth_set ol, bnth_set (by rw [h.pl]; exact hs)]
    by_cases e : x = s
    · subst e
      rw [if_pos rfl, if_pos rfl]
      simp at c0 ⊢
      omega
    · rw [if_neg e, if_neg e]; exact this
  · show bnth (g.di.set (pgN c t s) true) (pgN c t x) = true ∨ _
    rw [bnth_set dl]
    by_cases e : pgN c t x = pgN c t s
    · left; rw [if_pos e]
    · rw [if_neg e]
      refine h.mark x hx ?_
      have hb' : bnth (g.ow.set s true) x = true := hb
      rw [bnth_set ol, if_neg (by rintro rfl; exact e rfl)] at hb'
      exact hb'
  · have := dsum_set (c := c) (t := t) true dl
    have f := h.fuel
    show S + (g.en - g.at_) + dsum c t (g.di.set (pgN c t s) true) ≤ _
    rw [if_pos rfl] at this
    omega
theorem told_set (h : GInv c t n g put told S O) {s : Nat} (hs : s < nS c t) (x : Nat) : nth (told.set s (nth told s + 1)) x = if x = s then nth told s + 1 else nth told x := nth_set (by rw [h.tl]; exact hs)
/-- The queue's first slot is told. -/
theorem GInv.next (h : GInv c t n g put told S O) {x : Int} {is : Bool} (hr : nextG g = (g', x, is)) :
    (is = false ∧ g' = g ∧ g.q = []) ∨ (is = true ∧ ∃ s : Nat, x = s ∧ s < nS c t ∧ GInv c t n g' put (told.set s (nth told s + 1)) S O ∧ msr c t g' + 1 = msr c t g) := by
  have ok := nextG_ok h.ok
  rw [hr] at ok
  obtain ⟨q, ow, di, at_, en⟩ := g
  cases q with
  | nil => simp only [nextG] at hr; injection hr with e1 e2; injection e2 with e2 e3; exact .inl ⟨e3.symm, e1.symm, rfl⟩
  | cons y r =>
    simp only [nextG] at hr
    injection hr with e1 e2
    injection e2 with e2 e3
    subst e1 e2 e3
    have hy := h.ok.qs y (List.mem_cons_self ..)
    obtain ⟨s, rfl⟩ : ∃ s : Nat, y = s := ⟨y.toNat, by omega⟩
    have hs : s < nS c t := by omega
    refine .inr ⟨rfl, s, rfl, hs, ⟨h.ko, h.ti, ok, h.pl, by rw [List.length_set]; exact h.tl, fun x hx => ?_, fun x hx => ?_, h.mark, h.fuel⟩, ?_⟩
    · rw [told_set h hs]
      have := h.nn x hx; have := h.nn s hs
      split <;> omega
    · have := h.cnt x hx
      rw [told_set h hs]
      change nth told x + (qcnt ((s : Int) :: r) x : Int) + ((bnth ow x).toNat : Int) = _ at this
      rw [qcnt_cons] at this
      show _ + (qcnt r x : Int) + ((bnth ow x).toNat : Int) = _
      by_cases e : x = s
      · subst e
        rw [if_pos rfl] at this ⊢
        omega
      · rw [if_neg (Ne.symm e)] at this
        rw [if_neg e]; simpa using this
    · unfold msr; simp; omega
/-- A step of the walk. -/
theorem GInv.step (h : GInv c t n g put told S O) (hne : g.at_ ≠ g.en) :
    GInv c t n (stepG g).1 put (if bnth g.ow g.at_ then told.set g.at_ (nth told g.at_ + 1) else told) (S + 1) O ∧ msr c t (stepG g).1 + 1 = msr c t g ∧ g.at_ < nS c t := by
  have ok := stepG_ok h.ok hne
  have hlt : g.at_ < g.en := by
    rcases h.ok.wk with e | ⟨p, _, _, e, _⟩
    · exact absurd e hne
    · exact e
  have hs : g.at_ < nS c t := by have := h.ok.le; omega
  have ol : g.at_ < g.ow.length := by rw [h.ok.ol]; exact hs
  refine ⟨⟨h.ko, h.ti, ok, h.pl, ?_, fun x hx => ?_, fun x hx => ?_, fun x hx hb => ?_, ?_⟩, ?_, hs⟩
  · split
    · rw [List.length_set]; exact h.tl
    · exact h.tl
  · split
    · rw [told_set h hs]
      have := h.nn x hx; have := h.nn _ hs
      split <;> omega
    · exact h.nn x hx
  · have := h.cnt x hx
    show _ + (qcnt g.q x : Int) + ((bnth (g.ow.set g.at_ false) x).toNat : Int) = _
    rw [bnth_set ol]
    cases hb : bnth g.ow g.at_
    · rw [if_neg (by simp)]
      by_cases e : x = g.at_
      · subst e
        rw [if_pos rfl]; rw [hb] at this; exact this
      · rw [if_neg e]; exact this
    · rw [if_pos rfl, told_set h hs]
      by_cases e : x = g.at_
      · subst e
        rw [if_pos rfl, if_pos rfl]
        rw [hb] at this
        simp at this ⊢
        omega
      · rw [if_neg e, if_neg e]; exact this
  · have hb' : bnth (g.ow.set g.at_ false) x = true := hb
    rw [bnth_set ol] at hb'
    by_cases e : x = g.at_
    · rw [if_pos e] at hb'; cases hb'
    · rw [if_neg e] at hb'
      rcases h.mark x hx hb' with q | ⟨q1, q2⟩
      · exact .inl q
      · exact .inr ⟨by show g.at_ + 1 ≤ x; omega, q2⟩
  · have f := h.fuel
    show S + 1 + (g.en - (g.at_ + 1)) + dsum c t g.di ≤ O
    omega
  · unfold msr
    show g.q.length + (g.en - (g.at_ + 1)) + dsum c t g.di + 1 = _
    omega
/-- A dirty page is turned to. -/
theorem GInv.turn (h : GInv c t n g put told S O) (he : g.at_ = g.en) {p : Nat} (hp : p < g.di.length) (hd : bnth g.di p = true) :
    GInv c t n (turnG c t g p) put told S O ∧ msr c t (turnG c t g p) = msr c t g ∧ (turnG c t g p).at_ ≠ (turnG c t g p).en := by
  have hg : p < nG c t := by rw [← h.ok.dl]; exact hp
  obtain ⟨ok, ne⟩ := turnG_ok h.ko h.ti h.ok hg
  have ds := dsum_set (c := c) (t := t) false hp
  rw [hd, if_pos rfl, if_neg (by simp)] at ds
  have f := h.fuel
  refine ⟨⟨h.ko, h.ti, ok, h.pl, h.tl, h.nn, h.cnt, fun x hx hb => ?_, ?_⟩, ?_, ne⟩
  · rcases h.mark x hx hb with q | ⟨q1, q2⟩
    · by_cases e : pgN c t x = p
      · have sf := slFacts h.ko h.ti hx
        have l1 := sf.lo; have l2 := sf.hi
        rw [e] at l1 l2
        exact .inr ⟨l1, l2⟩
      · left
        show bnth (g.di.set p false) (pgN c t x) = true
        rw [bnth_set hp, if_neg e]; exact q
    · omega
  · show S + (fsN c t p + mnN c t p - fsN c t p) + dsum c t (g.di.set p false) ≤ O
    omega
  · unfold msr
    show g.q.length + (fsN c t p + mnN c t p - fsN c t p) + dsum c t (g.di.set p false) = _
    omega
/-- A walk: nothing, or a step. -/
theorem GInv.walk (h : GInv c t n g put told S O) {x : Int} {is went : Bool} (hr : walkG c t g = (g', x, is, went)) :
    (is = false ∧ went = false ∧ g' = g ∧ (g.q = [] → g.at_ = g.en ∧ fstD g.di = none)) ∨
    (is = false ∧ went = true ∧ GInv c t n g' put told (S + 1) O ∧ msr c t g' + 1 = msr c t g) ∨
    (is = true ∧ went = true ∧ ∃ s : Nat, x = s ∧ s < nS c t ∧ GInv c t n g' put (told.set s (nth told s + 1)) (S + 1) O ∧ msr c t g' + 1 = msr c t g) := by
  have stp : ∀ g1 : GS, GInv c t n g1 put told S O → msr c t g1 = msr c t g → g1.at_ ≠ g1.en → stepG g1 = (g', x, is, went) →
      (is = false ∧ went = true ∧ GInv c t n g' put told (S + 1) O ∧ msr c t g' + 1 = msr c t g) ∨
      (is = true ∧ went = true ∧ ∃ s : Nat, x = s ∧ s < nS c t ∧ GInv c t n g' put (told.set s (nth told s + 1)) (S + 1) O ∧ msr c t g' + 1 = msr c t g) := by
    intro g1 h1 hm hne hs
    obtain ⟨i1, i2, i3⟩ := h1.step hne
    have e1 : (stepG g1).1 = g' := by rw [hs]
    have e2 : (if bnth g1.ow g1.at_ then (g1.at_ : Int) else 0) = x := by
      have := congrArg (fun r => r.2.1) hs; exact this
    have e3 : bnth g1.ow g1.at_ = is := by
      have := congrArg (fun r => r.2.2.1) hs; exact this
    have e4 : true = went := by
      have := congrArg (fun r => r.2.2.2) hs; exact this
    rw [e1] at i1 i2
    rw [e3] at i1 e2
    cases is
    · exact .inl ⟨rfl, e4.symm, i1, by omega⟩
    · exact .inr ⟨rfl, e4.symm, g1.at_, e2.symm, i3, i1, by omega⟩
  unfold walkG at hr
  split at hr
  · rename_i he
    split at hr
    · rename_i hq
      split at hr
      · rename_i hf
        injection hr with e1 e2; injection e2 with e2 e3; injection e3 with e3 e4
        exact .inl ⟨e3.symm, e4.symm, e1.symm, fun _ => ⟨he, hf⟩⟩
      · rename_i p hf
        obtain ⟨f1, f2, _⟩ := fstD_some hf
        obtain ⟨i1, i2, i3⟩ := h.turn he f1 f2
        exact .inr (stp _ i1 i2 i3 hr)
    · rename_i hq
      injection hr with e1 e2; injection e2 with e2 e3; injection e3 with e3 e4
      exact .inl ⟨e3.symm, e4.symm, e1.symm, fun e => by rw [e] at hq; simp at hq⟩
  · rename_i he
    exact .inr (stp g h rfl he hr)
theorem bcnt_pos {bs : List Bool} : ∀ k, 0 < bcnt bs k → ∃ i, i < k ∧ bnth bs i = true
  | 0, h => absurd h (Nat.lt_irrefl 0)
  | k + 1, h => by
    rw [bcnt_succ] at h
    cases hb : bnth bs k
    · rw [hb] at h
      obtain ⟨i, h1, h2⟩ := bcnt_pos k (by simpa using h)
      exact ⟨i, by omega, h2⟩
    · exact ⟨k, by omega, hb⟩
/-- While there is something, with an empty queue a walk goes on. -/
theorem GInv.goes (h : GInv c t n g put told S O) (he : emptyG g = false) (hq : g.q = []) : ¬ (g.at_ = g.en ∧ fstD g.di = none) := by
  rintro ⟨h1, h2⟩
  unfold emptyG at he
  have : ¬ (g.q.length = 0 ∧ g.at_ = g.en ∧ owedG g = 0) := of_decide_eq_false he
  have h3 : owedG g ≠ 0 := fun e => this ⟨by rw [hq]; rfl, h1, e⟩
  obtain ⟨s, s1, s2⟩ := bcnt_pos _ (Nat.pos_of_ne_zero h3)
  rw [h.ok.ol] at s1
  have sf := slFacts h.ko h.ti s1
  rcases h.mark s s1 s2 with q | ⟨q1, q2⟩
  · rw [fstD_none h2 _ (by rw [h.ok.dl]; exact sf.lt)] at q; cases q
  · omega
theorem bcnt_zero_all {bs : List Bool} : ∀ k, bcnt bs k = 0 → ∀ i, i < k → bnth bs i = false
  | 0, _, i, hi => absurd hi (Nat.not_lt_zero _)
  | k + 1, h, i, hi => by
    rw [bcnt_succ] at h
    cases hb : bnth bs k
    · by_cases e : i = k
      · subst e; exact hb
      · exact bcnt_zero_all k (by omega) i (by omega)
    · rw [hb] at h; simp at h
/-- At the end. -/
theorem GInv.fin (h : GInv c t n g put told S O) (he : emptyG g = true) : (∀ s, s < nS c t → nth told s = ((bnth put s).toNat : Int)) ∧ S ≤ O ∧ g.q.length = 0 ∧ owedG g = 0 := by
  unfold emptyG at he
  obtain ⟨h1, h2, h3⟩ := of_decide_eq_true he
  have f := h.fuel
  refine ⟨fun s hs => ?_, by omega, h1, h3⟩
  have := h.cnt s hs
  have e1 : g.q = [] := List.length_eq_zero_iff.1 h1
  rw [e1, bcnt_zero_all _ h3 s (by rw [h.ok.ol]; exact hs)] at this
  simpa [qcnt] using this
/-- A page has no more slots than words. -/
theorem mnN_le (ko : KOk c) (ti : t < c.ts.length) {p : Nat} (hp : p < nG c t) : mnN c t p ≤ 64 := by
  have pf := pgFacts ko ti hp
  have hk := pf.at_.lt
  have bd := ko.bounds ti hk
  have e := pf.mn
  have m : manyP c t (p : Int) (kpOf c t (p : Int)) ≤ perOf c (kpOf c t (p : Int)) := by unfold manyP; split <;> omega
  have := bd.per32
  omega
theorem GInv.msr_le (h : GInv c t n g put told S O) (hn : n ≤ 64) (hO : O ≤ 6400) : msr c t g ≤ 6464 := by
  have := h.fuel; have := h.ok.ql
  unfold msr; omega

end Go.Proofs.YtlhajoamebfniaaDoor
