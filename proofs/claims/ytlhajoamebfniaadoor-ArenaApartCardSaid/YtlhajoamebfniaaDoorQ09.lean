/-
  Merged texts: Arena, Arena2, Arena3, Arena4, ArenaE, ArenaF, ArenaG.
-/
import Derived.Test.YtlhajoamebfniaaDoorQ06
import Derived.Test.YtlhajoamebfniaaDoorQ08
import Derived.Test.YtlhajoamebfniaaDoorQ07
import Derived.Deep.RegionHeld3
import Derived.Test.YtlhajoamebfniaaDoorQ03
set_option linter.unusedVariables false
set_option linter.unusedSimpArgs false
/-! arena: its shape in the memory; turn, Take, give, Give. -/
namespace Go.Proofs.YtlhajoamebfniaaDoor
open Go.RowKit

theorem PlanAt.chg {P : Nat → Prop} {w w' : World} {b gp : Nat} {c : Conf} {t : Nat} (h : PlanAt w b gp c t) (hx : Chg P w w') (hb : ¬ P b) (hg : ¬ P gp) : PlanAt w' b gp c t := by
  obtain ⟨cap, h0⟩ := h.parts
  exact ⟨h.ok, h.ti, ⟨cap, hx.cell hb h0⟩, hx.cell hb h.slots, hx.cell hb h.pages, hx.cell hb h.page, fun i hi j u hu => hx.cell hg (h.row i hi j u hu)⟩
theorem PlanAt.lt {w : World} {b gp : Nat} {c : Conf} {t : Nat} (h : PlanAt w b gp c t) : b < w.heap.size ∧ gp < w.heap.size :=
  ⟨cell_lt h.page, cell_lt (h.row 0 h.ok.cl.pos 0 _ rfl)⟩

/-- The blocks that what is done to an arena turns. -/
def arB (b rg k : Nat) : Prop := k = b ∨ k = rg
/-- An arena of the plan pb: its box b, its row's box rb, that one's words' block rg; the slots that are taken. -/
structure ArenaU (w : World) (b pb gp rb rg : Nat) (c : Conf) (t : Nat) (bs : List Bool) (u : Int) : Prop where
  plan : PlanAt w pb gp c t
  row : RowAt w rb rg bs
  len : bs.length = nS c t
  c0 : w.cell? ⟨b, 0, none⟩ = some (.pointer (some ⟨pb, 0, none⟩))
  c1 : w.cell? ⟨b, 1, none⟩ = some (.pointer (some ⟨rb, 0, none⟩))
  c2 : w.cell? ⟨b, 2, none⟩ = some (.int .i64 u)
  fz : w.frozen? ⟨b, 2, none⟩ = false
  n1 : rb ≠ b
  n2 : rg ≠ b
  n3 : pb ≠ b ∧ pb ≠ rg
  n4 : gp ≠ b ∧ gp ≠ rg
/-- What is used is the sizes' sum. -/
abbrev ArenaAt (w : World) (b pb gp rb rg : Nat) (c : Conf) (t : Nat) (bs : List Bool) : Prop := ArenaU w b pb gp rb rg c t bs (usedOf c t bs)
variable {w w' : World} {b pb gp rb rg : Nat} {c : Conf} {t : Nat} {bs bs' : List Bool} {u u0 : Int}
theorem ArenaU.pos (h : ArenaU w b pb gp rb rg c t bs u) : 0 < bs.length := by have := h.plan.ok.nS_pos h.plan.ti; rw [h.len]; omega
theorem ArenaU.chg {P : Nat → Prop} (h : ArenaU w b pb gp rb rg c t bs u) (hx : Chg P w w') (hb : ¬ P b) (hp : ¬ P pb ∧ ¬ P gp) (hr : ¬ P rb ∧ ¬ P rg) : ArenaU w' b pb gp rb rg c t bs u :=
  ⟨h.plan.chg hx hp.1 hp.2, h.row.chg hx hr.1 fun _ => hr.2, h.len, hx.cell hb h.c0, hx.cell hb h.c1, hx.cell hb h.c2, by rw [hx.frozen (p := ⟨b, 2, none⟩) (cell_lt h.c2) hb]; exact h.fz, h.n1, h.n2, h.n3, h.n4⟩
theorem ArenaU.ext (h : ArenaU w b pb gp rb rg c t bs u) (hx : Ext w w') : ArenaU w' b pb gp rb rg c t bs u :=
  h.chg (P := fun _ => False) (Chg.of_ext hx) (fun a => a) ⟨fun a => a, fun a => a⟩ ⟨fun a => a, fun a => a⟩
theorem ArenaU.lt (h : ArenaU w b pb gp rb rg c t bs u) : b < w.heap.size ∧ pb < w.heap.size ∧ gp < w.heap.size ∧ rb < w.heap.size ∧ rg < w.heap.size :=
  ⟨cell_lt h.c0, h.plan.lt.1, h.plan.lt.2, h.row.lt, h.row.glt h.pos⟩
/-- Behind a turn of the row and a store of what is used. -/
theorem ArenaU.turned {w1 : World} (h : ArenaU w b pb gp rb rg c t bs u0) (hr : RowAt w1 rb rg bs') (hx : Chg (tch rg bs) w w1) (hl : bs'.length = bs.length) (u : Int) :
    ArenaU (w1.setCell ⟨b, 2, none⟩ (.int .i64 u)) b pb gp rb rg c t bs' u ∧ Chg (arB b rg) w (w1.setCell ⟨b, 2, none⟩ (.int .i64 u)) := by
  have nb : ¬ tch rg bs b := fun q => h.n2 q.2.symm
  have x2 : Chg (fun k => k = b) w1 (w1.setCell ⟨b, 2, none⟩ (.int .i64 u)) := Chg.setCell (P := fun k => k = b) (p := ⟨b, 2, none⟩) (Chg.refl _ w1) (.inl rfl) _
  have d2 := hx.cell nb h.c2
  have oth : ∀ i v, i ≠ 2 → w1.cell? ⟨b, i, none⟩ = some v → (w1.setCell ⟨b, 2, none⟩ (.int .i64 u)).cell? ⟨b, i, none⟩ = some v := fun i v hi hc => by
    have := World.cell?_setCell_other w1 ⟨b, 2, none⟩ ⟨b, i, none⟩ (.int .i64 u) (by intro e; cases e; exact hi rfl)
    rw [this]; exact hc
  refine ⟨⟨(h.plan.chg hx (fun q => h.n3.2 q.2) (fun q => h.n4.2 q.2)).chg x2 h.n3.1 h.n4.1, hr.chg x2 h.n1 fun _ => h.n2, by rw [hl]; exact h.len, oth 0 _ (by decide) (hx.cell nb h.c0), oth 1 _ (by decide) (hx.cell nb h.c1), World.cell?_setCell_same _ _ _ d2, ?_, h.n1, h.n2, h.n3, h.n4⟩, ?_⟩
  · simp only [World.frozen?_setCell]
    rw [hx.frozen (p := ⟨b, 2, none⟩) (cell_lt h.c2) nb]; exact h.fz
  · exact (hx.mono fun k q => .inr q.2).trans (x2.mono fun k q => .inl q)

/-- An arena that is none. -/
def NoArena (w : World) (p : Option Addr) : Prop := p = none ∨ ∃ b, p = some ⟨b, 0, none⟩ ∧ w.cell? ⟨b, 1, none⟩ = some (.pointer none)
theorem NoArena.ext {p : Option Addr} (h : NoArena w p) (hx : Ext w w') : NoArena w' p := by
  rcases h with h | ⟨b, h, h1⟩
  · exact .inl h
  · exact .inr ⟨b, h, hx.cell h1⟩
set_option maxHeartbeats 1000000 in
theorem arena_none (h : ArenaAt w b pb gp rb rg c t bs) : Calls Tryd.prog 64 #[.pointer (some ⟨b, 0, none⟩)] w fun e w' => e = .returned (.bool false) ∧ w = w' := by
  have h1 := h.c1
  clear h
  go_enter Tryd.func64, Tryd.ntmps64
  go_wp2_with fail
  go_ret
  exact ⟨rfl, rfl⟩
set_option maxHeartbeats 1000000 in
theorem arena_none_no {p : Option Addr} (h : NoArena w p) : Calls Tryd.prog 64 #[.pointer p] w fun e w' => e = .returned (.bool true) ∧ w = w' := by
  rcases h with rfl | ⟨b, rfl, h1⟩
  · go_enter Tryd.func64, Tryd.ntmps64
    go_wp2_with fail
    go_ret
    exact ⟨rfl, rfl⟩
  · go_enter Tryd.func64, Tryd.ntmps64
    go_wp2_with fail
    go_ret
    exact ⟨rfl, rfl⟩

theorem enters_take1 : Enters Tryd.prog 68 := Enters.mk Tryd.func68 (by kernel_rfl) rfl
theorem enters_give1 : Enters Tryd.prog 94 := Enters.mk Tryd.func94 (by kernel_rfl) rfl
set_option maxHeartbeats 1000000 in
theorem arena_take1 {z : Nat} {s u v : Int} (h0 : w.cell? ⟨z, 0, none⟩ = some (.pointer (some ⟨b, 0, none⟩))) (h2 : w.cell? ⟨b, 2, none⟩ = some (.int .i64 u)) (hs : 0 ≤ s ∧ s ≤ 64) (hu : 0 ≤ u ∧ u ≤ 1048576) (hv : u + s = v) :
    Calls Tryd.prog 68 #[.int .i64 s, .pointer (some ⟨z, 0, none⟩)] w fun e w' => e = .returned (.int .i64 v) ∧ w = w' := by
  subst hv
  obtain ⟨s0, s1⟩ := hs
  obtain ⟨u0, u1⟩ := hu
  go_enter Tryd.func68, Tryd.ntmps68
  go_wp2_with fail
  go_ret
  exact ⟨rfl, rfl⟩
set_option maxHeartbeats 1000000 in
theorem arena_give1 {z : Nat} {s u v : Int} (h0 : w.cell? ⟨z, 0, none⟩ = some (.pointer (some ⟨b, 0, none⟩))) (h2 : w.cell? ⟨b, 2, none⟩ = some (.int .i64 u)) (hs : 0 ≤ s ∧ s ≤ 64) (hu : -1048576 ≤ u ∧ u ≤ 1048576) (hv : u - s = v) :
    Calls Tryd.prog 94 #[.int .i64 s, .pointer (some ⟨z, 0, none⟩)] w fun e w' => e = .returned (.int .i64 v) ∧ w = w' := by
  subst hv
  obtain ⟨s0, s1⟩ := hs
  obtain ⟨u0, u1⟩ := hu
  go_enter Tryd.func94, Tryd.ntmps94
  go_wp2_with fail
  go_ret
  exact ⟨rfl, rfl⟩

set_option maxHeartbeats 4000000 in
theorem arena_turnU {g z s : Nat} {v : Bool} {u u0 : Int} (h : ArenaU w b pb gp rb rg c t bs u0) (hs : s < nS c t) (hk : Enters Tryd.prog g)
    (hg : ∀ W, W.cell? ⟨z, 0, none⟩ = some (.pointer (some ⟨b, 0, none⟩)) → W.cell? ⟨b, 2, none⟩ = some (.int .i64 u0) → Calls Tryd.prog g #[.int .i64 (szOf c t s), .pointer (some ⟨z, 0, none⟩)] W fun e w' => e = .returned (.int .i64 u) ∧ W = w')
    (hz : w.cell? ⟨z, 0, none⟩ = some (.pointer (some ⟨b, 0, none⟩))) (nz : z ≠ rg) :
    Calls Tryd.prog 67 #[.pointer (some ⟨b, 0, none⟩), .int .i64 s, .bool v, .func (.func g) #[] #[.pointer (some ⟨z, 0, none⟩)]] w fun e w' => e = .returned (.tuple #[]) ∧ ArenaU w' b pb gp rb rg c t (bs.set s v) u ∧ Chg (arB b rg) w w' := by
  unfold Enters at hk
  have hsl : s < bs.length := by rw [h.len]; exact hs
  have SK := Lib.hid (slot_at h.plan.ok h.plan.ti hs)
  have SZ := Lib.hid (show nth c.cl (kOf c t (s : Int)) = szOf c t s from rfl)
  have BR := Lib.hid (bsetR_yes (is := v) hsl)
  have HL : Hid ((bs.set s v).length = bs.length) := Lib.hid (by rw [List.length_set])
  have H := Lib.hid h; have HG := Lib.hid hg; have HZ := Lib.hid hz
  have c0 := h.c0; have c1 := h.c1
  have nt : ¬ tch rg bs z := fun q => nz q.2
  have nb : ¬ tch rg bs b := fun q => h.n2 q.2.symm
  clear h hg hz hsl hs
  go_enter Tryd.func67, Tryd.ntmps67
  go_wp2_with fail
  refine (slot_SizeV _ SZ.out H.out.plan SK.out).mono ?_
  rintro e w1 ⟨rfl, x1⟩
  have X1 := Lib.hid x1
  replace c1 := x1.cell c1
  clear x1 c0
  go_wp2_with fail
  refine (row_Set bs _ 0 (H.out.row.ext X1.out) BR.out).mono ?_
  rintro e w2 ⟨rfl, hr2, hc2⟩
  have z2 := hc2.cell nt (X1.out.cell HZ.out)
  have u2 := hc2.cell nb (X1.out.cell H.out.c2)
  have f2 : w2.frozen? ⟨b, 2, none⟩ = false := by rw [hc2.frozen (p := ⟨b, 2, none⟩) (cell_lt (X1.out.cell H.out.c2)) nb]; exact X1.out.frozenAt H.out.c2 H.out.fz
  have HR2 := Lib.hid hr2; have HC2 := Lib.hid ((Chg.of_ext X1.out).trans hc2)
  have CG := Lib.hid (HG.out w2 z2 u2)
  clear hr2 hc2 z2 c1
  go_wp2_with fail
  refine CG.out.mono ?_
  rintro e w3 ⟨rfl, rfl⟩
  go_wp2_with fail
  go_end0
  obtain ⟨q1, q2⟩ := H.out.turned HR2.out HC2.out HL.out u
  exact ⟨rfl, q1, q2⟩
theorem arena_turn {g z s : Nat} {v : Bool} {u : Int} (h : ArenaAt w b pb gp rb rg c t bs) (hs : s < nS c t) (hk : Enters Tryd.prog g) (hu : usedOf c t (bs.set s v) = u)
    (hg : ∀ W, W.cell? ⟨z, 0, none⟩ = some (.pointer (some ⟨b, 0, none⟩)) → W.cell? ⟨b, 2, none⟩ = some (.int .i64 (usedOf c t bs)) → Calls Tryd.prog g #[.int .i64 (szOf c t s), .pointer (some ⟨z, 0, none⟩)] W fun e w' => e = .returned (.int .i64 u) ∧ W = w')
    (hz : w.cell? ⟨z, 0, none⟩ = some (.pointer (some ⟨b, 0, none⟩))) (nz : z ≠ rg) :
    Calls Tryd.prog 67 #[.pointer (some ⟨b, 0, none⟩), .int .i64 s, .bool v, .func (.func g) #[] #[.pointer (some ⟨z, 0, none⟩)]] w fun e w' => e = .returned (.tuple #[]) ∧ ArenaAt w' b pb gp rb rg c t (bs.set s v) ∧ Chg (arB b rg) w w' := by
  subst hu
  exact arena_turnU h hs hk hg hz nz

end Go.Proofs.YtlhajoamebfniaaDoor

/-! arena.Take, arena.give, arena.Give. -/
namespace Go.Proofs.YtlhajoamebfniaaDoor
open Go.RowKit
variable {w w' : World} {b pb gp rb rg : Nat} {c : Conf} {t : Nat} {bs bs' : List Bool}

set_option maxHeartbeats 4000000 in
theorem arena_Take {k p e : Int} (h : ArenaAt w b pb gp rb rg c t bs) (hT : Tab w) (hr : TakeR c t bs k bs' p e) :
    Calls Tryd.prog 26 #[.pointer (some ⟨b, 0, none⟩), .int .i64 k] w fun r w' => r = .returned (.tuple #[.int .i64 p, .int .i64 e]) ∧ ArenaAt w' b pb gp rb rg c t bs' ∧ Chg (arB b rg) w w' := by
  have hmf : ∀ (fn : Fn) (first cap : Array Value) (w : World), (Instr.makeFunc fn first cap).run Tryd.prog w = .ok (.func fn first cap) w := fun _ _ _ _ => rfl
  have x0 := (Ext.refl w).alloc (.cells #[.pointer (some ⟨b, 0, none⟩)] 51)
  have H := Lib.hid (h.ext x0)
  have HT := Lib.hid (hT.ext x0)
  have X0 := Lib.hid x0
  have c0 := (h.ext x0).c0; have c1 := (h.ext x0).c1
  have cz := cell_new1 w (.pointer (some ⟨b, 0, none⟩)) 51
  have HR := Lib.hid hr
  have hlt := h.lt
  clear x0 h hT
  rcases hr with ⟨hk, rfl, rfl, rfl⟩ | ⟨j, rfl, hj, hr⟩
  · by_cases hn : k < 0
    · have ON := Lib.hid (fun W (h : PlanAt W pb gp c t) => slot_Of_neg h hn)
      clear hk hn HR
      go_enter Tryd.func26, Tryd.ntmps26
      go_wp2_with fail
      refine (arena_none H.out).mono ?_
      rintro e w1000 ⟨rfl, rfl⟩
      go_wp2_with fail
      refine (ON.out _ H.out.plan).mono ?_
      rintro e w1 ⟨rfl, x1⟩
      go_wp2_with fail
      go_ret2
      exact ⟨rfl, H.out.ext x1, Chg.of_ext (X0.out.trans x1)⟩
    · have ON := Lib.hid (fun W (h : PlanAt W pb gp c t) => slot_Of_no (k := k) h (by omega))
      clear hk hn HR
      go_enter Tryd.func26, Tryd.ntmps26
      go_wp2_with fail
      refine (arena_none H.out).mono ?_
      rintro e w1000 ⟨rfl, rfl⟩
      go_wp2_with fail
      refine (ON.out _ H.out.plan).mono ?_
      rintro e w1 ⟨rfl, x1⟩
      go_wp2_with fail
      go_ret2
      exact ⟨rfl, H.out.ext x1, Chg.of_ext (X0.out.trans x1)⟩
  · obtain ⟨p', q, hnx⟩ := next_exists bs (sS c t j) false
    have NX := Lib.hid hnx
    have ON := Lib.hid (fun W (h : PlanAt W pb gp c t) => slot_Of h hj)
    have hs0 := H.out.plan.ok.sS_le H.out.plan.ti (k := j) (by omega)
    have hs1 := H.out.plan.ok.sS_le H.out.plan.ti (k := j + 1) (by omega)
    have hsu : sS c t (j + 1) = sS c t j + slotsOf c t j := rfl
    have m8 := H.out.plan.ok.cl.most
    have hle := H.out.plan.ok.nS_le H.out.plan.ti
    have hne := H.out.plan.ok.nS_eq H.out.plan.ti
    by_cases hq : q = true ∧ p' < sS c t j + slotsOf c t j
    · obtain ⟨rfl, hlt'⟩ := hq
      rcases hnx with ⟨_, s, rfl, h1, h2, h3, h4⟩ | ⟨hf, _⟩
      · have hin : ofClass c t j s := ⟨h1, by rw [hsu]; exact hlt'⟩
        obtain ⟨rfl, rfl, rfl⟩ : bs' = bs.set s true ∧ p = (s : Int) ∧ e = 0 := by
          rcases hr with ⟨s', a1, a2, a3, rfl, rfl, rfl⟩ | ⟨a1, _⟩
          · rcases Nat.lt_trichotomy s s' with g | g | g
            · rw [a3 s hin g] at h3; cases h3
            · subst g; exact ⟨rfl, rfl, rfl⟩
            · have := h4 s' a1.1 g; rw [a2] at this; cases this
          · rw [a1 s hin] at h3; cases h3
        have hsn : s < nS c t := by rw [← H.out.len]; exact h2
        have SZ := szOf_bd H.out.plan.ok H.out.plan.ti hsn
        have US := used_take H.out.len h2 h3
        have UB := usedOf_bd H.out.plan.ok H.out.plan.ti bs
        have t1 : decide (sS c t j + slotsOf c t j ≤ (s : Int)) = false := decide_eq_false (by omega)
        have AT := Lib.hid (fun W (h : ArenaAt W b pb gp rb rg c t bs) (hz : W.cell? ⟨w.heap.size, 0, none⟩ = some (.pointer (some ⟨b, 0, none⟩))) =>
          arena_turn (v := true) h hsn enters_take1 US (fun W z1 z2 => arena_take1 z1 z2 ⟨by omega, SZ.2⟩ UB rfl) hz (by omega))
        clear HR hr h4 hin h3 US UB SZ
        go_enter Tryd.func26, Tryd.ntmps26
        go_wp2_with fail
        refine (arena_none H.out).mono ?_
        rintro e w1000 ⟨rfl, rfl⟩
        go_wp2_with fail
        refine (ON.out _ H.out.plan).mono ?_
        rintro e w1 ⟨rfl, x1⟩
        replace c1 := x1.cell c1
        replace cz := x1.cell cz
        go_wp2_with fail
        refine (row_Next bs _ _ (H.out.row.ext x1) (HT.out.ext x1) NX.out).mono ?_
        rintro e w2 ⟨rfl, x2⟩
        replace c1 := x2.cell c1
        replace cz := x2.cell cz
        replace x1 := x1.trans x2
        clear x2
        go_wp2_with fail
        refine (AT.out _ (H.out.ext x1) cz).mono ?_
        rintro e w3 ⟨rfl, h3, hc3⟩
        go_wp2_with fail
        go_ret2
        exact ⟨rfl, h3, (Chg.of_ext (X0.out.trans x1)).trans hc3⟩
      · cases hf
    · have hno : ∀ i : Nat, ofClass c t j i → bnth bs i = true := by
        intro i hi
        rcases hnx with ⟨hq1, s, rfl, h1, h2, h3, h4⟩ | ⟨_, _, h4⟩
        · have g : sS c t j + slotsOf c t j ≤ (s : Int) := by
            rcases Int.lt_or_le (s : Int) (sS c t j + slotsOf c t j) with g | g
            · exact absurd ⟨hq1, g⟩ hq
            · exact g
          have := hi.2
          exact h4 i hi.1 (by omega)
        · exact h4 i hi.1 (by rw [H.out.len]; exact ofClass_lt H.out.plan.ok H.out.plan.ti hj hi)
      obtain ⟨rfl, rfl, rfl⟩ : bs' = bs ∧ p = 0 ∧ e = 6 := by
        rcases hr with ⟨s', a1, a2, a3, rfl, rfl, rfl⟩ | ⟨a1, a2⟩
        · rw [hno s' a1] at a2; cases a2
        · exact a2
      cases q
      · clear HR hr hno hq hnx
        go_enter Tryd.func26, Tryd.ntmps26
        go_wp2_with fail
        refine (arena_none H.out).mono ?_
        rintro e w1000 ⟨rfl, rfl⟩
        go_wp2_with fail
        refine (ON.out _ H.out.plan).mono ?_
        rintro e w1 ⟨rfl, x1⟩
        replace c1 := x1.cell c1
        replace cz := x1.cell cz
        go_wp2_with fail
        refine (row_Next bs' _ _ (H.out.row.ext x1) (HT.out.ext x1) NX.out).mono ?_
        rintro e w2 ⟨rfl, x2⟩
        replace x1 := x1.trans x2
        clear x2
        go_wp2_with fail
        go_ret2
        exact ⟨rfl, H.out.ext x1, Chg.of_ext (X0.out.trans x1)⟩
      · have t1 : decide (sS c t j + slotsOf c t j ≤ p') = true := decide_eq_true (by
          rcases Int.lt_or_le p' (sS c t j + slotsOf c t j) with g | g
          · exact absurd ⟨rfl, g⟩ hq
          · exact g)
        have tw : wrap64 (sS c t j + slotsOf c t j) = sS c t j + slotsOf c t j := by unfold wrap64; omega
        have t2 : ¬ p' < sS c t j + slotsOf c t j := by simpa using t1
        clear HR hr hno hq hnx
        go_enter Tryd.func26, Tryd.ntmps26
        go_wp2_with fail
        refine (arena_none H.out).mono ?_
        rintro e w1000 ⟨rfl, rfl⟩
        go_wp2_with fail
        refine (ON.out _ H.out.plan).mono ?_
        rintro e w1 ⟨rfl, x1⟩
        replace c1 := x1.cell c1
        replace cz := x1.cell cz
        go_wp2_with fail
        refine (row_Next bs' _ _ (H.out.row.ext x1) (HT.out.ext x1) NX.out).mono ?_
        rintro e w2 ⟨rfl, x2⟩
        replace x1 := x1.trans x2
        clear x2
        go_wp2_with fail
        go_ret2
        exact ⟨rfl, H.out.ext x1, Chg.of_ext (X0.out.trans x1)⟩

set_option maxHeartbeats 4000000 in
theorem arena_giveU {s : Nat} {u : Int} (h : ArenaU w b pb gp rb rg c t bs u) (hs : s < bs.length) (hu : -1048576 ≤ u ∧ u ≤ 1048576) :
    Calls Tryd.prog 72 #[.pointer (some ⟨b, 0, none⟩), .int .i64 s] w fun r w' => r = .returned (.tuple #[]) ∧ ArenaU w' b pb gp rb rg c t (bs.set s false) (u - szOf c t s) ∧ Chg (arB b rg) w w' := by
  have hmf : ∀ (fn : Fn) (first cap : Array Value) (w : World), (Instr.makeFunc fn first cap).run Tryd.prog w = .ok (.func fn first cap) w := fun _ _ _ _ => rfl
  have x0 := (Ext.refl w).alloc (.cells #[.pointer (some ⟨b, 0, none⟩)] 51)
  have H := Lib.hid (h.ext x0)
  have X0 := Lib.hid x0
  have cz := cell_new1 w (.pointer (some ⟨b, 0, none⟩)) 51
  have hlt := h.lt
  have hsn : s < nS c t := by rw [← h.len]; exact hs
  have SZ := szOf_bd h.plan.ok h.plan.ti hsn
  have AT := Lib.hid (arena_turnU (v := false) (u := u - szOf c t s) H.out hsn enters_give1 (fun W z1 z2 => arena_give1 z1 z2 ⟨by omega, SZ.2⟩ hu rfl) cz (by omega))
  clear x0 h hu SZ cz
  go_enter Tryd.func72, Tryd.ntmps72
  go_wp2_with fail
  refine AT.out.mono ?_
  rintro e w3 ⟨rfl, h3, hc3⟩
  go_wp2_with fail
  go_end0
  exact ⟨rfl, h3, (Chg.of_ext X0.out).trans hc3⟩
theorem arena_give {s : Nat} (h : ArenaAt w b pb gp rb rg c t bs) (hs : s < bs.length) (hb : bnth bs s = true) :
    Calls Tryd.prog 72 #[.pointer (some ⟨b, 0, none⟩), .int .i64 s] w fun r w' => r = .returned (.tuple #[]) ∧ ArenaAt w' b pb gp rb rg c t (bs.set s false) ∧ Chg (arB b rg) w w' := by
  have UB := usedOf_bd h.plan.ok h.plan.ti bs
  have := arena_giveU h hs (by omega)
  rw [← used_give h.len hs hb] at this
  exact this

set_option maxHeartbeats 4000000 in
theorem arena_Give {s e : Int} (h : ArenaAt w b pb gp rb rg c t bs) (hr : giveR bs s = (bs', e)) :
    Calls Tryd.prog 32 #[.pointer (some ⟨b, 0, none⟩), .int .i64 s] w fun r w' => r = .returned (.int .i64 e) ∧ ArenaAt w' b pb gp rb rg c t bs' ∧ Chg (arB b rg) w w' := by
  unfold giveR at hr
  have H := Lib.hid h
  have c1 := h.c1
  have hmost := h.row.most
  by_cases hs : 0 ≤ s ∧ s < bs.length
  · rw [if_neg (by simpa using hs)] at hr
    obtain ⟨n, rfl⟩ := Int.eq_ofNat_of_zero_le hs.1
    simp only [Int.toNat_natCast] at hr
    have hn : n < bs.length := by omega
    have GE := Lib.hid (row_Get (i := (n : Int)) bs (bnth bs n) H.out.row (bget_nat bs n))
    clear h
    cases hb : bnth bs n
    · rw [hb] at hr GE
      cases hr
      clear hb
      go_enter Tryd.func32, Tryd.ntmps32
      go_wp2_with fail
      refine (arena_none H.out).mono ?_
      rintro e w1000 ⟨rfl, rfl⟩
      go_wp2_with fail
      refine (row_Len bs H.out.row).mono ?_
      rintro e w1000 ⟨rfl, rfl⟩
      go_wp2_with fail
      refine (GE.out).mono ?_
      rintro e w1000 ⟨rfl, rfl⟩
      go_wp2_with fail
      go_ret
      exact ⟨rfl, H.out, Chg.refl _ _⟩
    · have GV := Lib.hid (arena_give H.out hn hb)
      rw [hb] at hr GE
      cases hr
      clear hb
      go_enter Tryd.func32, Tryd.ntmps32
      go_wp2_with fail
      refine (arena_none H.out).mono ?_
      rintro e w1000 ⟨rfl, rfl⟩
      go_wp2_with fail
      refine (row_Len bs H.out.row).mono ?_
      rintro e w1000 ⟨rfl, rfl⟩
      go_wp2_with fail
      refine (GE.out).mono ?_
      rintro e w1000 ⟨rfl, rfl⟩
      go_wp2_with fail
      refine GV.out.mono ?_
      rintro e w3 ⟨rfl, h3, hc3⟩
      go_wp2_with fail
      go_ret
      exact ⟨rfl, h3, hc3⟩
  · rw [if_pos (by simpa using hs)] at hr
    cases hr
    clear h
    by_cases h0 : s < 0
    · clear hs
      go_enter Tryd.func32, Tryd.ntmps32
      go_wp2_with fail
      refine (arena_none H.out).mono ?_
      rintro e w1000 ⟨rfl, rfl⟩
      go_wp2_with fail
      go_ret
      exact ⟨rfl, H.out, Chg.refl _ _⟩
    · have t1 : decide ((bs.length : Int) ≤ s) = true := decide_eq_true (by omega)
      clear hs
      go_enter Tryd.func32, Tryd.ntmps32
      go_wp2_with fail
      refine (arena_none H.out).mono ?_
      rintro e w1000 ⟨rfl, rfl⟩
      go_wp2_with fail
      refine (row_Len bs H.out.row).mono ?_
      rintro e w1000 ⟨rfl, rfl⟩
      go_wp2_with fail
      go_ret
      exact ⟨rfl, H.out, Chg.refl _ _⟩

end Go.Proofs.YtlhajoamebfniaaDoor

/-! arena.Has, Used, Count, Taken, Copy, New; an arena that is none. -/
namespace Go.Proofs.YtlhajoamebfniaaDoor
open Go.RowKit
variable {w w' : World} {b pb gp rb rg : Nat} {c : Conf} {t : Nat} {bs bs' : List Bool}

set_option maxHeartbeats 2000000 in
theorem arena_Has {s : Int} (r : Bool) (h : ArenaAt w b pb gp rb rg c t bs) (hr : bget bs s = r) :
    Calls Tryd.prog 28 #[.pointer (some ⟨b, 0, none⟩), .int .i64 s] w fun e w' => e = .returned (.bool r) ∧ w = w' := by
  have H := Lib.hid h
  have c1 := h.c1
  have GE := Lib.hid (row_Get bs r h.row hr)
  clear h hr
  go_enter Tryd.func28, Tryd.ntmps28
  go_wp2_with fail
  refine (arena_none H.out).mono ?_
  rintro e w1000 ⟨rfl, rfl⟩
  go_wp2_with fail
  refine (GE.out).mono ?_
  rintro e w1000 ⟨rfl, rfl⟩
  go_wp2_with fail
  go_ret
  exact ⟨rfl, rfl⟩
set_option maxHeartbeats 2000000 in
theorem arena_Used {u : Int} (h : ArenaAt w b pb gp rb rg c t bs) (hu : usedOf c t bs = u) :
    Calls Tryd.prog 24 #[.pointer (some ⟨b, 0, none⟩)] w fun e w' => e = .returned (.int .i64 u) ∧ w = w' := by
  subst hu
  have H := Lib.hid h
  have c2 := h.c2
  clear h
  go_enter Tryd.func24, Tryd.ntmps24
  go_wp2_with fail
  refine (arena_none H.out).mono ?_
  rintro e w1000 ⟨rfl, rfl⟩
  go_wp2_with fail
  go_ret
  exact ⟨rfl, rfl⟩
set_option maxHeartbeats 2000000 in
theorem arena_Count (n : Nat) (h : ArenaAt w b pb gp rb rg c t bs) (hn : bcnt bs bs.length = n) :
    Calls Tryd.prog 30 #[.pointer (some ⟨b, 0, none⟩)] w fun e w' => e = .returned (.int .i64 n) ∧ w = w' := by
  have H := Lib.hid h
  have c1 := h.c1
  have CN := Lib.hid (row_Count bs n h.row hn)
  clear h hn
  go_enter Tryd.func30, Tryd.ntmps30
  go_wp2_with fail
  refine (arena_none H.out).mono ?_
  rintro e w1000 ⟨rfl, rfl⟩
  go_wp2_with fail
  refine (CN.out).mono ?_
  rintro e w1000 ⟨rfl, rfl⟩
  go_wp2_with fail
  go_ret
  exact ⟨rfl, rfl⟩
set_option maxHeartbeats 2000000 in
theorem arena_Taken (h : ArenaAt w b pb gp rb rg c t bs) :
    Calls Tryd.prog 25 #[.pointer (some ⟨b, 0, none⟩)] w (CopyPost bs w) := by
  have H := Lib.hid h
  have c1 := h.c1
  have CN := Lib.hid (row_Copy bs h.row)
  clear h
  go_enter Tryd.func25, Tryd.ntmps25
  go_wp2_with fail
  refine (arena_none H.out).mono ?_
  rintro e w1000 ⟨rfl, rfl⟩
  go_wp2_with fail
  refine CN.out.mono ?_
  rintro e w1 ⟨b1, g1, rfl, h1, h2, h3, x1⟩
  go_wp2_with fail
  go_ret
  exact ⟨b1, g1, rfl, h1, h2, h3, x1⟩

/-- What Copy hands back: an arena of its own, of the same plan. -/
def ArenaNew (pb gp : Nat) (c : Conf) (t : Nat) (bs : List Bool) (w : World) (r : Value) (w' : World) : Prop :=
  ∃ b rb rg, r = .pointer (some ⟨b, 0, none⟩) ∧ ArenaAt w' b pb gp rb rg c t bs ∧ w.heap.size ≤ b ∧ w.heap.size ≤ rb ∧ w.heap.size ≤ rg ∧ Ext w w'
theorem ArenaNew.mk' {W : World} {u : TypeId} {x : Int} (hp : PlanAt W pb gp c t) (hr : RowAt W rb rg bs) (hl : bs.length = nS c t) (hu : usedOf c t bs = x) (h1 : w.heap.size ≤ rb) (h2 : 0 < bs.length → w.heap.size ≤ rg) (l1 : pb < w.heap.size) (l2 : gp < w.heap.size) (hx : Ext w W) :
    ArenaNew pb gp c t bs w (.pointer (some ⟨W.heap.size, 0, none⟩)) (W.alloc (.cells #[.pointer (some ⟨pb, 0, none⟩), .pointer (some ⟨rb, 0, none⟩), .int .i64 x] u)) := by
  subst hu
  have hpos : 0 < bs.length := by have := hp.ok.nS_pos hp.ti; rw [hl]; omega
  have h2' := h2 hpos
  have y := (Ext.refl W).alloc (.cells #[.pointer (some ⟨pb, 0, none⟩), .pointer (some ⟨rb, 0, none⟩), .int .i64 (usedOf c t bs)] u)
  have r1 := hr.lt; have r2 := hr.glt hpos
  have s0 := hx.size
  exact ⟨_, rb, rg, rfl, ⟨hp.ext y, hr.ext y, hl, cell_newN W _ u 0, cell_newN W _ u 1, cell_newN W _ u 2, World.frozen?_alloc_at _ _ _ _ rfl, by omega, by omega, ⟨by omega, by omega⟩, by omega, by omega⟩, s0, h1, h2', hx.alloc _⟩

set_option maxHeartbeats 2000000 in
theorem arena_Copy (h : ArenaAt w b pb gp rb rg c t bs) :
    Calls Tryd.prog 33 #[.pointer (some ⟨b, 0, none⟩)] w fun e w' => ∃ r, e = .returned r ∧ ArenaNew pb gp c t bs w r w' := by
  have H := Lib.hid h
  have c0 := h.c0; have c1 := h.c1; have c2 := h.c2
  obtain ⟨x, hx⟩ : ∃ x, usedOf c t bs = x := ⟨_, rfl⟩
  rw [hx] at c2
  have HX := Lib.hid hx
  have hd : Ext w w.drew := (Ext.refl w).drew
  have CP : Hid (∀ w', Ext w w' → Calls Tryd.prog 65 #[.pointer (some ⟨rb, 0, none⟩)] w' (CopyPost bs w')) := Lib.hid fun w' x => row_Copy bs (H.out.row.ext x)
  clear h hx
  go_enter Tryd.func33, Tryd.ntmps33
  go_wp2_with fail
  refine (arena_none H.out).mono ?_
  rintro e w1000 ⟨rfl, rfl⟩
  go_wp2_with fail
  go_region_held3 (fun w' => w'.cell? ⟨b, 0, none⟩ = some (.pointer (some ⟨pb, 0, none⟩)) ∧ w'.cell? ⟨b, 1, none⟩ = some (.pointer (some ⟨rb, 0, none⟩)) ∧ w'.cell? ⟨b, 2, none⟩ = some (.int .i64 x))
    ((first | go_keep | (go_split_ands; exact ⟨hE.cell (by assumption), hE.cell (by assumption), hE.cell (by assumption)⟩)))
    ((go_at_call 65; refine (CP.out _ ?_).mono ?_; assumption; rintro e w1 ⟨b1, g1, rfl, hr1, l1, l2, hE⟩))
  all_goals
    go_wp2_with fail
    go_ret
    have y := hd.trans hE
    exact ⟨_, rfl, ArenaNew.mk' (H.out.plan.ext y) hr1 H.out.len HX.out l1 l2 H.out.lt.2.1 H.out.lt.2.2.1 y⟩

/-! ### New -/
set_option maxHeartbeats 2000000 in
theorem arena_New (h : PlanAt w pb gp c t) :
    Calls Tryd.prog 43 #[.pointer (some ⟨pb, 0, none⟩)] w fun e w' => ∃ r, e = .returned (.tuple #[r, .int .i64 0]) ∧ ArenaNew pb gp c t (List.replicate (nS c t) false) w r w' := by
  have ho := h.ok; have ht := h.ti
  have hn := ho.nS_eq ht
  have hle := ho.nS_le ht
  have hpo := ho.nS_pos ht
  have SL := Lib.hid (fun W (h : PlanAt W pb gp c t) => slot_SlotsV (nS c t : Int) hn.symm h)
  have H := Lib.hid h
  have BN := Lib.hid (fun W : World => bits_New (w := W) (nS c t) (by omega))
  have HU := Lib.hid (show usedOf c t (List.replicate (nS c t) false) = 0 from usedTo_none _)
  clear h hn
  obtain ⟨N, hN⟩ : ∃ n, nS c t = n := ⟨_, rfl⟩
  rw [hN] at SL BN HU hle hpo ⊢
  have EN := Lib.hid hN
  clear hN
  go_enter Tryd.func43, Tryd.ntmps43
  go_wp2_with fail
  refine (SL.out _ H.out).mono ?_
  rintro e w1000 ⟨rfl, rfl⟩
  go_wp2_with fail
  refine (SL.out _ H.out).mono ?_
  rintro e w1000 ⟨rfl, rfl⟩
  go_wp2_with fail
  refine (BN.out _).mono ?_
  rintro e w1 ⟨b1, g1, rfl, h1, l1, l2, x1⟩
  go_wp2_with fail
  go_ret2
  have := H.out.lt
  have HU' := HU.out
  exact ⟨_, rfl, ArenaNew.mk' (H.out.ext x1) h1 (by rw [List.length_replicate]; exact EN.out.symm) HU' l1 (by rw [List.length_replicate]; exact l2) this.1 this.2 x1⟩

end Go.Proofs.YtlhajoamebfniaaDoor

/-! arena: an arena that is none. -/
namespace Go.Proofs.YtlhajoamebfniaaDoor
open Go.RowKit
variable {w w' : World} {p : Option Addr}

theorem NoArena.box (h : NoArena w p) : Hid (NoArena (w.alloc (.cells #[.pointer p] 51)) p) := Lib.hid (h.ext ((Ext.refl w).alloc _))
set_option maxHeartbeats 2000000 in
theorem arena_Take_no {k : Int} (h : NoArena w p) : Calls Tryd.prog 26 #[.pointer p, .int .i64 k] w fun e w' => e = .returned (.tuple #[.int .i64 0, .int .i64 1]) ∧ Ext w w' := by
  have H := h.box
  clear h
  go_enter Tryd.func26, Tryd.ntmps26
  go_wp2_with fail
  refine (arena_none_no H.out).mono ?_
  rintro e w1000 ⟨rfl, rfl⟩
  go_wp2_with fail
  go_ret2
  exact ⟨rfl, (Ext.refl w).alloc _⟩
set_option maxHeartbeats 2000000 in
theorem arena_Give_no {s : Int} (h : NoArena w p) : Calls Tryd.prog 32 #[.pointer p, .int .i64 s] w fun e w' => e = .returned (.int .i64 1) ∧ w = w' := by
  have H := Lib.hid h
  clear h
  go_enter Tryd.func32, Tryd.ntmps32
  go_wp2_with fail
  refine (arena_none_no H.out).mono ?_
  rintro e w1000 ⟨rfl, rfl⟩
  go_wp2_with fail
  go_ret
  exact ⟨rfl, rfl⟩
set_option maxHeartbeats 2000000 in
theorem arena_Has_no {s : Int} (h : NoArena w p) : Calls Tryd.prog 28 #[.pointer p, .int .i64 s] w fun e w' => e = .returned (.bool false) ∧ w = w' := by
  have H := Lib.hid h
  clear h
  go_enter Tryd.func28, Tryd.ntmps28
  go_wp2_with fail
  refine (arena_none_no H.out).mono ?_
  rintro e w1000 ⟨rfl, rfl⟩
  go_wp2_with fail
  go_ret
  exact ⟨rfl, rfl⟩
set_option maxHeartbeats 2000000 in
theorem arena_Used_no (h : NoArena w p) : Calls Tryd.prog 24 #[.pointer p] w fun e w' => e = .returned (.int .i64 0) ∧ w = w' := by
  have H := Lib.hid h
  clear h
  go_enter Tryd.func24, Tryd.ntmps24
  go_wp2_with fail
  refine (arena_none_no H.out).mono ?_
  rintro e w1000 ⟨rfl, rfl⟩
  go_wp2_with fail
  go_ret
  exact ⟨rfl, rfl⟩
set_option maxHeartbeats 2000000 in
theorem arena_Count_no (h : NoArena w p) : Calls Tryd.prog 30 #[.pointer p] w fun e w' => e = .returned (.int .i64 0) ∧ w = w' := by
  have H := Lib.hid h
  clear h
  go_enter Tryd.func30, Tryd.ntmps30
  go_wp2_with fail
  refine (arena_none_no H.out).mono ?_
  rintro e w1000 ⟨rfl, rfl⟩
  go_wp2_with fail
  go_ret
  exact ⟨rfl, rfl⟩
set_option maxHeartbeats 2000000 in
theorem arena_Taken_no (h : NoArena w p) : Calls Tryd.prog 25 #[.pointer p] w fun e w' => e = .returned (.pointer none) ∧ w = w' := by
  have H := Lib.hid h
  clear h
  go_enter Tryd.func25, Tryd.ntmps25
  go_wp2_with fail
  refine (arena_none_no H.out).mono ?_
  rintro e w1000 ⟨rfl, rfl⟩
  go_wp2_with fail
  go_ret
  exact ⟨rfl, rfl⟩
set_option maxHeartbeats 2000000 in
theorem arena_Copy_no (h : NoArena w p) : Calls Tryd.prog 33 #[.pointer p] w fun e w' => e = .returned (.pointer none) ∧ w = w' := by
  have H := Lib.hid h
  clear h
  go_enter Tryd.func33, Tryd.ntmps33
  go_wp2_with fail
  refine (arena_none_no H.out).mono ?_
  rintro e w1000 ⟨rfl, rfl⟩
  go_wp2_with fail
  go_ret
  exact ⟨rfl, rfl⟩
set_option maxHeartbeats 2000000 in
theorem arena_New_nil : Calls Tryd.prog 43 #[.pointer none] w fun e w' => e = .returned (.tuple #[.pointer none, .int .i64 1]) ∧ w = w' := by
  go_enter Tryd.func43, Tryd.ntmps43
  go_wp2_with fail
  refine (slot_Slots_nil).mono ?_
  rintro e w1000 ⟨rfl, rfl⟩
  go_wp2_with fail
  go_ret2
  exact ⟨rfl, rfl⟩
end Go.Proofs.YtlhajoamebfniaaDoor

/-! arena: each: its contract as an iterator. -/
namespace Go.Proofs.YtlhajoamebfniaaDoor
open Go.RowKit Go.Shelf
attribute [local go_sem] Oper.semAt_some

/-- What a round may be handed: a position whose bit is 1. -/
abbrev OneBit (r : List Bool) := { i : Nat // i < r.length ∧ bnth r i = true }
def encB {r : List Bool} (x : OneBit r) : Array Value := #[.int .i64 (x.1 : Int)]
/-- The positions below n whose bits are 1. -/
def onesTo (r : List Bool) : Nat → List (OneBit r)
  | 0 => []
  | n + 1 => onesTo r n ++ if h : n < r.length ∧ bnth r n = true then [⟨n, h⟩] else []
theorem onesTo_len (r : List Bool) : ∀ n, (onesTo r n).length ≤ n
  | 0 => Nat.le_refl _
  | n + 1 => by
    have := onesTo_len r n
    rw [onesTo, List.length_append]
    split <;> simp <;> omega
theorem onesTo_hit {r : List Bool} {n : Nat} (h : n < r.length ∧ bnth r n = true) : onesTo r (n + 1) = onesTo r n ++ [⟨n, h⟩] := by rw [onesTo, dif_pos h]
theorem onesTo_gap {r : List Bool} {n m : Nat} (hnm : n ≤ m) (h : ∀ j, n ≤ j → j < m → bnth r j = false) : onesTo r m = onesTo r n := by
  induction m with
  | zero => obtain rfl : n = 0 := by omega
            rfl
  | succ m ih =>
    rcases Nat.lt_or_ge m n with g | g
    · obtain rfl : n = m + 1 := by omega
      rfl
    · rw [onesTo, ih g fun j h1 h2 => h j h1 (by omega), dif_neg (by rw [h m g (by omega)]; simp), List.append_nil]
theorem onesTo_mem {r : List Bool} {x : OneBit r} : ∀ {n : Nat}, x ∈ onesTo r n ↔ x.1 < n
  | 0 => by simp [onesTo]
  | n + 1 => by
    rw [onesTo, List.mem_append, onesTo_mem]
    by_cases h : n < r.length ∧ bnth r n = true
    · rw [dif_pos h, List.mem_singleton]
      constructor
      · rintro (h1 | rfl)
        · omega
        · exact Nat.lt_succ_self _
      · intro h1
        rcases Nat.lt_or_ge x.1 n with g | g
        · exact .inl g
        · exact .inr (Subtype.ext (show x.1 = n by omega))
    · rw [dif_neg h]
      simp only [List.not_mem_nil, or_false]
      constructor
      · omega
      · intro h1
        rcases Nat.lt_or_ge x.1 n with g | g
        · exact g
        · have e : x.1 = n := by omega
          exact absurd (e ▸ x.2) h

theorem isNext_step {r : List Bool} {n : Nat} {p : Int} (h : IsNext r n true p true) : ∃ i : Nat, p = i ∧ n ≤ i ∧ ∃ h : i < r.length ∧ bnth r i = true, onesTo r (i + 1) = onesTo r n ++ [⟨i, h⟩] := by
  rcases h with ⟨_, i, rfl, h1, h2, h3, h4⟩ | ⟨h, _⟩
  · refine ⟨i, rfl, by omega, ⟨h2, h3⟩, ?_⟩
    rw [onesTo_hit ⟨h2, h3⟩, onesTo_gap (n := n) (by omega) fun j h5 h6 => h4 j (by omega) h6]
  · cases h
theorem isNext_end {r : List Bool} {n : Nat} {p : Int} (hn : n ≤ r.length) (h : IsNext r n true p false) : onesTo r r.length = onesTo r n := by
  rcases h with ⟨h, _⟩ | ⟨_, _, h⟩
  · cases h
  · exact onesTo_gap hn fun j h1 h2 => h j (by omega) h2
theorem Tab.chg {Q : Nat → Prop} {w w' : World} (h : Tab w) (hx : Chg Q w w') (hq : ¬ Q 0) : Tab w' := fun j hj => hx.cell hq (h j hj)

set_option maxRecDepth 100000 in
set_option maxHeartbeats 16000000 in
theorem each1_in (n : Nat) (hn : 1 ≤ n) (l Bl rb rg : Nat) {r : List Bool} (Q : Nat → Prop) (q0 : ¬ Q Bl) (q1 : ¬ Q rb) (q2 : ¬ Q rg) (q3 : ¬ Q 0) (J Jx : List (OneBit r) → World → Prop) (hJe : ∀ pre V V', J pre V → Ext V V' → J pre V')
    (hY : ∀ pre x W, J pre W → pre.length < r.length → YieldAt Fence.wide (n - 1) Tryd.prog l (encB x) W fun e W' =>
      (e = .returned (.bool true) ∧ J (pre ++ [x]) W' ∧ Chg Q W W') ∨ (e = .returned (.bool false) ∧ Jx (pre ++ [x]) W'))
    (W : World) (cl : W.cell? ⟨Bl, 0, none⟩ = some (.pointer (some ⟨rb, 0, none⟩))) (hR : RowAt W rb rg r) (hT : Tab W) (h0 : J [] W) :
    CallsIn Fence.wide n Tryd.prog 95 #[.func (.yield l) #[] #[], .pointer (some ⟨Bl, 0, none⟩)] W fun e W' => (∃ v, e = .returned v) ∧
      ((∃ ys, ys = onesTo r r.length ∧ J ys W') ∨ (∃ pre, (∃ j, j ≤ r.length ∧ pre = onesTo r j) ∧ Jx pre W')) := by
  have most := hR.most
  have HY := Lib.hid hY; have JE := Lib.hid hJe; have H0 := Lib.hid h0; have HR := Lib.hid hR; have HT := Lib.hid hT; have CL := Lib.hid cl
  obtain ⟨p, q, hnx⟩ := next_exists r ((0 : Nat) : Int) true
  have NX := Lib.hid hnx
  clear hY hJe h0 hR hT hnx
  refine callsIn_of_wp Tryd.func95 rfl trivial ?_ rfl
  simp only [Tryd.ntmps95, List.size_toArray, List.length_cons, List.length_nil, Nat.reduceAdd, Nat.reduceSub, Array.replicate_succ, Array.replicate_zero, List.push_toArray, List.append_toArray, List.nil_append, List.cons_append]
  gi_wp2_with (first
    | (refine ⟨trivial, ?_⟩; gi_at_call 54; refine (callsIn_wide.2 (row_Next r p q HR.out HT.out NX.out)).mono ?_; rintro e W1 ⟨rfl, x1⟩; have X1 := Lib.hid x1))
  gi_loopw [3, 4] (fun iv qv wr => ∃ (m : Nat) (p : Int) (q : Bool), m ≤ r.length ∧ iv = .int .i64 p ∧ qv = .bool q ∧ Hid (IsNext r m true p q) ∧ Hid (J (onesTo r m) wr) ∧ Hid (Chg Q W wr)) (fun iv qv _ => match qv with | .bool true => r.length - (intOf iv).toNat + 1 | _ => 0)
  case atStart => exact ⟨0, p, q, Nat.zero_le _, rfl, rfl, NX, Lib.hid (JE.out _ _ _ H0.out X1.out), Lib.hid (Chg.of_ext X1.out)⟩
  case round =>
    obtain ⟨m, p, q, hm, rfl, rfl, NX, HJ, HC⟩ := hrel
    cases q
    · have he := isNext_end hm NX.out
      have HE := Lib.hid he
      clear he
      gi_wp2
      go_end0
      exact ⟨⟨_, rfl⟩, .inl ⟨_, rfl, HE.out ▸ HJ.out⟩⟩
    · obtain ⟨i, rfl, hmi, hi, he⟩ := isNext_step NX.out
      have hlt : (onesTo r m).length < r.length := by have := onesTo_len r m; omega
      have hi1 := hi.1
      have cl := HC.out.cell q0 CL.out
      have hy0 := HY.out _ ⟨i, hi⟩ wr HJ.out hlt
      have HE := Lib.hid he
      have ef : encB (r := r) ⟨i, hi⟩ = #[.int .i64 (i : Int)] := rfl
      rw [ef] at hy0
      obtain ⟨fn, tmps, assign, body, hy, hR⟩ := hy0
      clear ef he
      gi_wp2
      have hR2 := hR.mono (R' := fun e W' => ∃ bb : Bool, e = .returned (.bool bb) ∧ Hid ((bb = true ∧ J (onesTo r m ++ [⟨i, hi⟩]) W' ∧ Chg Q wr W') ∨ (bb = false ∧ Jx (onesTo r m ++ [⟨i, hi⟩]) W'))) (fun e W' h => by
        rcases h with ⟨rfl, h1, h2⟩ | ⟨rfl, h1⟩
        · exact ⟨true, rfl, .inl ⟨rfl, h1, h2⟩⟩
        · exact ⟨false, rfl, .inr ⟨rfl, h1⟩⟩)
      clear hR
      refine hR2.mono ?_
      rintro e W4 ⟨bb, rfl, hbb⟩
      clear hR2 hy
      rcases hbb.out with ⟨rfl, hJ3, hk3⟩ | ⟨rfl, hJx3⟩
      · obtain ⟨p', q', hnx⟩ := next_exists r ((i + 1 : Nat) : Int) true
        have HJ3 := Lib.hid hJ3; have HK3 := Lib.hid (HC.out.trans hk3)
        have hr4 := HR.out.chg HK3.out q1 fun _ => q2
        have ht4 := HT.out.chg HK3.out q3
        have cl4 := HK3.out.cell q0 CL.out
        have hnx' := hnx
        rw [show ((i + 1 : Nat) : Int) = (i : Int) + 1 from rfl] at hnx'
        have NN := Lib.hid hnx
        have CN := Lib.hid (row_Next r p' q' hr4 ht4 hnx')
        clear hbb hJ3 hk3 hr4 ht4 hnx hnx'
        gi_wp2_with (first
          | (refine ⟨trivial, ?_⟩; gi_at_call 54; refine (callsIn_wide.2 CN.out).mono ?_; rintro e W5 ⟨rfl, x5⟩; have X5 := Lib.hid x5))
        go_roundw
        case rel => exact ⟨i + 1, p', q', by omega, rfl, rfl, NN, Lib.hid (by rw [HE.out]; exact JE.out _ _ _ HJ3.out X5.out), Lib.hid (HK3.out.trans (Chg.of_ext X5.out))⟩
        case measure =>
          cases q'
          · simp [intOf]
          · obtain ⟨i', rfl, h1, h2, _⟩ := isNext_step NN.out
            have := h2.1
            simp [intOf]; omega
      · have HX3 := Lib.hid hJx3
        clear hbb hJx3
        gi_wp2
        refine bodyPost_ret (results_none rfl _ _ _) rfl ?_
        exact ⟨⟨_, rfl⟩, .inr ⟨_, ⟨i + 1, hi.1, HE.out.symm⟩, HX3.out⟩⟩

end Go.Proofs.YtlhajoamebfniaaDoor

/-! arena: what GiveAll leaves: plain lemmas; each's contract as a range wants it. -/
namespace Go.Proofs.YtlhajoamebfniaaDoor
open Go.RowKit Go.Shelf
attribute [local go_sem] Oper.semAt_some

theorem Chg.past {P : Nat → Prop} {v A B : World} {row : Option Nat} (h : Chg P v A) (hg : A.grownBy B row) (hr : ∀ r, row = some r → v.heap.size ≤ r ∧ ∃ o : Obj, A.heap[r]? = some o ∧ o.isCells = false) : Chg P v B :=
  ⟨hg.os.trans h.os, hg.tape.trans h.tape, hg.output.trans h.output, Nat.le_trans h.size hg.size, fun k hk hp => (hg.block k (Nat.lt_of_lt_of_le hk h.size) (fun e => by have := (hr k e.symm).1; omega)).trans (h.block k hk hp)⟩
theorem Chg.grown {N : Nat} {A B : World} {row : Option Nat} (hg : A.grownBy B row) (hr : ∀ r, row = some r → N ≤ r ∧ ∃ o : Obj, A.heap[r]? = some o ∧ o.isCells = false) : Chg (fun k => N ≤ k) A B :=
  ⟨hg.os, hg.tape, hg.output, hg.size, fun k hk hp => hg.block k hk (fun e => hp (hr k e.symm).1)⟩
theorem Chg.putObj {P : Nat → Prop} {a W : World} (h : Chg P a W) {l : Nat} (hp : P l) (o : Obj) : Chg P a (W.putObj l o) :=
  h.trans ⟨(grownBy_putObj' W l o).os, (grownBy_putObj' W l o).tape, (grownBy_putObj' W l o).output, (grownBy_putObj' W l o).size, fun k hk hn => (grownBy_putObj' W l o).block k hk (by intro e; cases e; exact hn hp)⟩
theorem Chg.new {P : Nat → Prop} {v A B : World} (h : Chg P v A) (k : Chg (fun k => v.heap.size ≤ k) A B) : Chg P v B :=
  ⟨k.os.trans h.os, k.tape.trans h.tape, k.output.trans h.output, Nat.le_trans h.size k.size, fun i hi hp => (k.block i (Nat.lt_of_lt_of_le hi h.size) (by omega)).trans (h.block i hi hp)⟩
/-- Worlds that differ in cells alone. -/
theorem Chg.keeps {P : Nat → Prop} {A B : World} (h : Chg P A B) (hc : ∀ k, P k → ∃ o : Obj, A.heap[k]? = some o ∧ o.isCells = true) : KeepsOthers A B :=
  ⟨h.size, fun k o hk ho => (h.block k (Array.getElem?_eq_some_iff.1 hk).1 (fun hp => by
    obtain ⟨o', h1, h2⟩ := hc k hp
    rw [hk] at h1; cases h1; rw [ho] at h2; cases h2)).trans hk⟩

variable {w w' : World} {b pb gp rb rg lb lg : Nat} {c : Conf} {t : Nat} {bs bs' r : List Bool} {u : Int}
theorem ArenaU.tab (h : ArenaU w b pb gp rb rg c t bs u) (hT : Tab w) : ¬ arB b rg 0 := by
  have t0 := hT 0 (by decide)
  rintro (e | e)
  · have c0 := h.c0
    rw [← e] at c0
    rw [c0] at t0; cases t0
  · have c0 := h.row.word h.pos 0 (wlen_pos h.pos)
    rw [← e] at c0
    rw [c0] at t0; cases t0
theorem ArenaU.cells (h : ArenaU w b pb gp rb rg c t bs u) : ∀ k, arB b rg k → ∃ o : Obj, w.heap[k]? = some o ∧ o.isCells = true := by
  rintro k (rfl | rfl)
  · exact cells_of_cell h.c0
  · exact cells_of_cell (h.row.word h.pos 0 (wlen_pos h.pos))
theorem ArenaU.apart (h : ArenaU w b pb gp rb rg c t bs u) (hl : RowAt w lb lg r) (h0 : 0 < r.length) (hn : lg ≠ rg) : ¬ arB b rg lb ∧ ¬ arB b rg lg := by
  obtain ⟨a, cap, l0, _⟩ := hl.ex
  constructor
  · rintro (e | e)
    · rw [e, h.c0] at l0; cases l0
    · have := h.row.word h.pos 0 (wlen_pos h.pos)
      rw [e, this] at l0; cases l0
  · rintro (e | e)
    · have := hl.word h0 0 (wlen_pos h0)
      rw [e, h.c0] at this; cases this
    · exact hn e

theorem onesTo_snoc {pre : List (OneBit r)} {x : OneBit r} : ∀ {j : Nat}, onesTo r j = pre ++ [x] → pre = onesTo r x.1 ∧ ∀ y ∈ pre, y.1 ≠ x.1
  | 0, h => by simp [onesTo] at h
  | j + 1, h => by
    rw [onesTo] at h
    by_cases hj : j < r.length ∧ bnth r j = true
    · rw [dif_pos hj] at h
      obtain ⟨e1, e2⟩ := List.append_inj' h rfl
      injection e2 with e2 _
      subst e2
      refine ⟨e1.symm, fun y hy => ?_⟩
      rw [← e1] at hy
      have := onesTo_mem.1 hy
      show y.1 ≠ j
      omega
    · rw [dif_neg hj, List.append_nil] at h
      exact onesTo_snoc h
theorem onesTo_any (i : Nat) : (onesTo r r.length).any (fun y => y.1 == i) = bnth r i := by
  cases hb : bnth r i
  · rw [List.any_eq_false]
    intro y _ e
    have e : y.1 = i := by simpa using e
    have := y.2.2
    rw [e, hb] at this; cases this
  · rw [List.any_eq_true]
    have hi : i < r.length := by
      rcases Nat.lt_or_ge i r.length with g | g
      · exact g
      · rw [bnth_out g] at hb; cases hb
    exact ⟨⟨i, hi, hb⟩, onesTo_mem.2 hi, by simp⟩

/-- What GiveAll's second loop keeps. -/
def GiveI (w3 : World) (b pb gp rb rg : Nat) (c : Conf) (t : Nat) (bs r : List Bool) (pre : List (OneBit r)) (W : World) : Prop :=
  Chg (arB b rg) w3 W ∧ ∃ bs' u, ArenaU W b pb gp rb rg c t bs' u ∧ -64 * (pre.length : Int) ≤ u ∧ u ≤ 1048576 ∧ bs'.length = bs.length ∧ (∀ i, bnth bs' i = (bnth bs i && !(pre.any fun y => y.1 == i))) ∧ ((∃ j, pre = onesTo r j) → u = usedOf c t bs')
theorem GiveI.own {w3 : World} {l : List (OneBit r)} {A B : World} {row : Option Nat} (h : GiveI w3 b pb gp rb rg c t bs r l A) (l1 : b < w3.heap.size ∧ pb < w3.heap.size ∧ gp < w3.heap.size ∧ rb < w3.heap.size ∧ rg < w3.heap.size) (hg : A.grownBy B row)
    (hr : ∀ r, row = some r → w3.heap.size ≤ r ∧ ∃ o : Obj, A.heap[r]? = some o ∧ o.isCells = false) : GiveI w3 b pb gp rb rg c t bs r l B := by
  obtain ⟨h1, bs', u, h2, h3⟩ := h
  have hc := Chg.grown hg hr
  exact ⟨h1.past hg hr, bs', u, h2.chg hc (by omega) ⟨by omega, by omega⟩ ⟨by omega, by omega⟩, h3⟩
theorem GiveI.start (h : ArenaAt w b pb gp rb rg c t bs) : GiveI w b pb gp rb rg c t bs r [] w := by
  have bd := usedOf_bd h.plan.ok h.plan.ti bs
  exact ⟨Chg.refl _ _, bs, _, h, by simpa using bd.1, bd.2, rfl, fun i => by simp, fun _ => rfl⟩
theorem GiveI.round {w3 W : World} {pre : List (OneBit r)} {x : OneBit r} (h : GiveI w3 b pb gp rb rg c t bs r pre W) (hl : pre.length < r.length) (hrl : r.length = nS c t) (hs : ∀ i, bnth r i = true → bnth bs i = true) :
    Calls Tryd.prog 72 #[.pointer (some ⟨b, 0, none⟩), .int .i64 x.1] W fun e W' => e = .returned (.tuple #[]) ∧ GiveI w3 b pb gp rb rg c t bs r (pre ++ [x]) W' ∧ KeepsOthers W W' ∧ Chg (arB b rg) W W' := by
  obtain ⟨h1, bs', u, h2, h3, h4, h5, h6, h7⟩ := h
  have hx : x.1 < bs'.length := by have := x.2.1; rw [h2.len]; omega
  have ln := h2.plan.ok.nS_le h2.plan.ti
  have sz := szOf_bd h2.plan.ok h2.plan.ti (s := x.1) (by rw [← h2.len]; exact hx)
  have kc := h2.cells
  refine (arena_giveU h2 hx ⟨by omega, h4⟩).mono ?_
  rintro e W' ⟨rfl, q1, q2⟩
  refine ⟨rfl, ⟨h1.trans q2, _, _, q1, by rw [List.length_append, List.length_singleton]; omega, by omega, by rw [List.length_set]; exact h5, fun i => ?_, fun hj => ?_⟩, q2.keeps kc, q2⟩
  · rw [bnth_set hx, List.any_append, h6]
    by_cases e : i = x.1
    · subst e; simp
    · rw [if_neg e]
      have e' : (x.1 == i) = false := by simpa using Ne.symm e
      simp [e']
  · obtain ⟨j, hj⟩ := hj
    obtain ⟨e1, e2⟩ := onesTo_snoc hj.symm
    have hb : bnth bs' x.1 = true := by
      rw [h6, hs _ x.2.2]
      simp only [Bool.true_and, Bool.not_eq_true']
      rw [List.any_eq_false]
      intro y hy
      simpa using e2 y hy
    rw [used_give h2.len hx hb, h7 ⟨_, e1⟩]
theorem GiveI.done {w3 W : World} (h : GiveI w3 b pb gp rb rg c t bs r (onesTo r r.length) W) : ArenaAt W b pb gp rb rg c t (bless bs r) := by
  obtain ⟨h1, bs', u, h2, h3, h4, h5, h6, h7⟩ := h
  have e : bs' = bless bs r := bext (by rw [bless_len]; exact h5) fun i _ => by rw [h6, onesTo_any, bless_nth]
  rw [← e]
  have := h7 ⟨_, rfl⟩
  subst this
  exact h2

theorem each_stops (n : Nat) (hn : 1 ≤ n) (Bl lb lg N : Nat) (Q : Nat → Prop) (hN : r.length = N) (q0 : ¬ Q Bl) (q1 : ¬ Q lb) (q2 : ¬ Q lg) (q3 : ¬ Q 0) (w : World) (cl : w.cell? ⟨Bl, 0, none⟩ = some (.pointer (some ⟨lb, 0, none⟩))) (hR : RowAt w lb lg r) (hT : Tab w) :
    SeqStopsK Fence.wide n Tryd.prog 95 #[.pointer (some ⟨Bl, 0, none⟩)] (encB (r := r)) (Chg Q) (fun ys => ys = onesTo r r.length) (fun pre => ∃ j, j ≤ r.length ∧ pre = onesTo r j) N w := fun l J Jx W hW hJ _ hY h0 => by
  have hx : Ext w W := hW
  subst hN
  exact each1_in n hn l Bl lb lg Q q0 q1 q2 q3 J Jx (fun pre V V' h hz => hJ pre V V' none h ⟨Below.os hz, Below.tape hz, Below.output hz, Below.size hz, fun k hk _ => Below.block hz k hk⟩ (fun r e => by cases e)) hY W (hx.cell cl) (hR.ext hx) (fun j hj => hx.cell (hT j hj)) h0

set_option maxHeartbeats 1000000 in
theorem arena_each (pp : Option Addr) {w : World} :
    Calls Tryd.prog 73 #[.pointer pp] w fun e w' => e = .returned (.func (.func 95) #[] #[.pointer (some ⟨w.heap.size, 0, none⟩)]) ∧
      w' = w.alloc (.cells #[.pointer pp] 64) := by
  go_enter Tryd.func73, Tryd.ntmps73
  go_wp2_with fail
  go_ret
  exact ⟨rfl, rfl⟩
end Go.Proofs.YtlhajoamebfniaaDoor

/-! arena: GiveAll. -/
namespace Go.Proofs.YtlhajoamebfniaaDoor
open Go.RowKit Go.Shelf
attribute [local go_sem] Oper.semAt_some
variable {w w' : World} {b pb gp rb rg lb lg : Nat} {c : Conf} {t : Nat} {bs bs' r : List Bool} {u : Int}

theorem two_new (w : World) (v0 v1 : Value) (t0 t1 : TypeId) :
    ((w.alloc (.cells #[v0] t0)).alloc (.cells #[v1] t1)).cell? ⟨w.heap.size, 0, none⟩ = some v0 ∧
    (((w.alloc (.cells #[v0] t0)).alloc (.cells #[v1] t1)).cell? ⟨w.heap.size + 1, 0, none⟩ = some v1 ∧ ((w.alloc (.cells #[v0] t0)).alloc (.cells #[v1] t1)).frozen? ⟨w.heap.size + 1, 0, none⟩ = false) := by
  have c1 := cell_newN (w.alloc (.cells #[v0] t0)) #[v1] t1 0
  have f1 : ((w.alloc (.cells #[v0] t0)).alloc (.cells #[v1] t1)).frozen? ⟨(w.alloc (.cells #[v0] t0)).heap.size, 0, none⟩ = false := World.frozen?_alloc_at _ _ _ _ rfl
  simp only [World.size_alloc] at c1 f1
  exact ⟨((Ext.refl _).alloc _).cell (cell_newN w _ _ 0), c1, f1⟩

set_option maxRecDepth 100000 in
set_option maxHeartbeats 16000000 in
theorem arena_GiveAll {q : Int} (h : ArenaAt w b pb gp rb rg c t bs) (hT : Tab w) (hl : RowAt w lb lg r) (hn : lg ≠ rg) (hrl : r.length = bs.length) (hr : giveAllR bs r = (bs', q)) :
    Calls Tryd.prog 35 #[.pointer (some ⟨b, 0, none⟩), .pointer (some ⟨lb, 0, none⟩)] w fun e w' => e = .returned (.int .i64 q) ∧ ArenaAt w' b pb gp rb rg c t bs' ∧ Chg (arB b rg) w w' := by
  have H := Lib.hid h; have HR := Lib.hid hr
  have HT := Lib.hid hT; have HL := Lib.hid hl
  have RL := Lib.hid hrl
  have AP := Lib.hid (h.apart hl (by rw [hrl]; exact h.pos) hn)
  have TB := Lib.hid (h.tab hT)
  have LT := Lib.hid h.lt
  have l0 := hl.lt
  have l1 := hl.glt (by rw [hrl]; exact h.pos)
  have hmost := hl.most
  obtain ⟨N, hN⟩ : ∃ N, bs.length = N := ⟨_, rfl⟩
  have LN1 : Hid (∀ W, Ext w W → Calls Tryd.prog 42 #[.pointer (some ⟨lb, 0, none⟩)] W fun e w' => e = .returned (.int .i64 N) ∧ W = w') := Lib.hid fun W x => by
    have := row_Len r (hl.ext x); rw [hrl, hN] at this; exact this
  have LN2 : Hid (∀ W, Ext w W → Calls Tryd.prog 42 #[.pointer (some ⟨rb, 0, none⟩)] W fun e w' => e = .returned (.int .i64 N) ∧ W = w') := Lib.hid fun W x => by
    have := row_Len bs (h.row.ext x); rw [hN] at this; exact this
  have CPY := Lib.hid (fun W (x : Ext w W) => row_Copy r (hl.ext x))
  have HN := Lib.hid hN
  obtain ⟨z, hz⟩ : ∃ z, w.heap.size = z := ⟨_, rfl⟩
  obtain ⟨W0, hW0⟩ : ∃ W0, (w.alloc (.cells #[.pointer (some ⟨b, 0, none⟩)] 51)).alloc (.cells #[.int .i64 0] 41) = W0 := ⟨_, rfl⟩
  have x0 : Ext w W0 := by rw [← hW0]; exact ((Ext.refl _).alloc _).alloc _
  obtain ⟨k0, k1⟩ := (by rw [← hW0, ← hz]; exact two_new w _ _ _ _ : W0.cell? ⟨z, 0, none⟩ = some (.pointer (some ⟨b, 0, none⟩)) ∧ (W0.cell? ⟨z + 1, 0, none⟩ = some (.int .i64 0) ∧ W0.frozen? ⟨z + 1, 0, none⟩ = false))
  have sz : W0.heap.size = z + 2 := by rw [← hW0, ← hz]; simp
  have HZ := Lib.hid hz
  have c1 := x0.cell h.c1
  have xd : Ext w W0.drew := x0.drew
  clear h hl hT hn hr hrl hN
  refine (callsIn_wide (n := 4)).1 ?_
  refine callsIn_of_wp_marks Tryd.func35 rfl trivial ?_ rfl
  simp only [Tryd.ntmps35, List.size_toArray, List.length_cons, List.length_nil, Nat.reduceAdd, Nat.reduceSub, Array.replicate_succ, Array.replicate_zero, List.push_toArray, List.append_toArray, List.nil_append, List.cons_append]
  gi_wp2_with (first | (refine ⟨trivial, ?_⟩; gi_at_call 64; refine (callsIn_wide.2 (arena_none (H.out.ext x0))).mono ?_; rintro e w' ⟨rfl, rfl⟩))
  refine wpIn_mono (Q := fun e a' W' => e = .normal ∧ ∃ b1 : Nat, a' = { tmps := #[.pointer (some ⟨b, 0, none⟩), .pointer (some ⟨lb, 0, none⟩), .pointer (some ⟨z, 0, none⟩), undef, .pointer (some ⟨z + 1, 0, none⟩), undef, undef, .bool false, .pointer (some ⟨b, 0, none⟩), .bool false, .bool false, .pointer (some ⟨lb, 0, none⟩), .pointer (some ⟨b1, 0, none⟩), .bool false, .bool false, .pointer (some ⟨lb, 0, none⟩), .int .i64 N, .pointer (some ⟨b, 0, none⟩), .pointer (some ⟨b, 0, none⟩), .pointer (some ⟨b, 1, none⟩), .pointer (some ⟨rb, 0, none⟩), .int .i64 N, .bool false, .bool false, undef, undef, undef, undef, undef, undef, undef, undef, undef, undef, undef, undef, undef, undef, undef, undef], defers := [] } ∧ Ext W0 W') ?_ ?_
  · refine wpIn_region_noPanic ?_
    gi_region_with (first
      | (refine ⟨trivial, ?_⟩; gi_at_call 65; refine (callsIn_wide.2 (CPY.out _ xd)).mono ?_; rintro e W1 ⟨b1, g1, rfl, _, _, _, x1⟩; have k0' := x1.cell ((Ext.refl _).drew.cell k0); have k1' := x1.cell ((Ext.refl _).drew.cell k1.1); have f1' := x1.frozenAt ((Ext.refl _).drew.cell k1.1) ((Ext.refl _).drew.frozenAt k1.1 k1.2); have c1' := x1.cell ((Ext.refl _).drew.cell c1); have xx := xd.trans x1)
      | (refine ⟨trivial, ?_⟩; gi_at_call 42; first | (refine (callsIn_wide.2 (LN1.out _ xx)).mono ?_; rintro e w' ⟨rfl, rfl⟩) | (refine (callsIn_wide.2 (LN2.out _ xx)).mono ?_; rintro e w' ⟨rfl, rfl⟩) | fail))
    all_goals
      refine NoPanic.normal ?_
      exact ⟨rfl, _, rfl, (Ext.refl _).drew.trans x1⟩
  · rintro e a' W1 ⟨rfl, b1, rfl, x1⟩
    have K0 := x1.cell k0; have K1 := x1.cell k1.1; have F1 := x1.frozenAt k1.1 k1.2; have C1 := x1.cell c1
    have X1 := Lib.hid (x0.trans x1)
    have x1' := x1.size
    clear k0 k1 c1 xd x1 x0 hW0
    gi_wp2_with (first | (refine ⟨trivial, ?_⟩; gi_at_call 73; refine (callsIn_wide.2 (arena_each _)).mono ?_; rintro e w' ⟨rfl, rfl⟩))
    obtain ⟨y, hy⟩ : ∃ y, W1.heap.size = y := ⟨_, rfl⟩
    obtain ⟨W2, hW2⟩ : ∃ V, W1.alloc (.cells #[.pointer (some ⟨lb, 0, none⟩)] 64) = V := ⟨_, rfl⟩
    have x2 : Ext W1 W2 := by rw [← hW2]; exact (Ext.refl _).alloc _
    have cy : W2.cell? ⟨y, 0, none⟩ = some (.pointer (some ⟨lb, 0, none⟩)) := by rw [← hW2, ← hy]; exact cell_newN W1 _ _ 0
    have sz2 : W2.heap.size = y + 1 := by rw [← hW2, ← hy]; simp
    have X2 := Lib.hid (X1.out.trans x2)
    have zy : z + 2 ≤ y := by rw [← hy, ← sz]; exact x1'
    have k0 := x2.cell K0; have k1 := x2.cell K1; have f1 := x2.frozenAt K1 F1; have c1 := x2.cell C1
    have K := Lib.hid (And.intro k0 (And.intro k1 (And.intro f1 c1)))
    obtain ⟨ab, abg⟩ := AP.out
    have lt := LT.out
    have ST := Lib.hid (each_stops (r := r) 3 (by decide) y lb lg N (fun k => arB b rg k ∨ W2.heap.size ≤ k) (RL.out.trans HN.out) (by unfold arB; omega) (by unfold arB at ab ⊢; omega) (by unfold arB at abg ⊢; omega) (by have := TB.out; have t : 0 < w.heap.size := cell_lt (HT.out 0 (by decide)); have := X2.out.size; unfold arB at *; omega) W2 cy (HL.out.ext X2.out) (HT.out.ext X2.out))
    rw [hW2, hy]
    clear cy hW2 k0 k1 f1 c1 K0 K1 F1 C1 x2 ab abg
    refine wpIn_rangeFunc_ownF rfl (by omega) (gf := 95) (lb := #[.pointer (some ⟨y, 0, none⟩)]) rfl trivial (enters_of Tryd.func95 (by kernel_rfl) rfl)
      ST.out (fun h k => h.trans k) (fun W l o o' hl _ _ _ => (Chg.refl _ W).putObj (.inr hl) o') (Below.refl _ _) (fun _ => rfl)
      (fun pre W => Below W2.heap.size W2 W ∧ ∀ x ∈ pre, bnth bs x.1 = true)
      (fun cc _ W => (cc = .ret ∧ W.cell? ⟨z + 1, 0, none⟩ = some (.int .i64 9) ∧ ∃ i, bnth r i = true ∧ bnth bs i = false) ∧ Below w.heap.size w W)
      (OwnFrom.and (ownFrom_below (Nat.le_refl _) (Nat.le_refl _)) (Own.from (fun _ _ _ _ hs _ _ => hs) _))
      (fun cc => OwnFrom.and (Own.from (fun s A B row hs hg hr => ⟨hs.1, cell_kept hs.2.1 hg hr, hs.2.2⟩) _) (ownFrom_below (Nat.le_refl _) X2.out.size))
      ⟨Below.refl _ _, fun x hx => by cases hx⟩
      (fun x => { tmps := #[.pointer (some ⟨b, 0, none⟩), .pointer (some ⟨lb, 0, none⟩), .pointer (some ⟨z, 0, none⟩), undef, .pointer (some ⟨z + 1, 0, none⟩), .int .i64 (x.1 : Int), undef, .bool false, .pointer (some ⟨b, 0, none⟩), .bool false, .bool false, .pointer (some ⟨lb, 0, none⟩), .pointer (some ⟨b1, 0, none⟩), .bool false, .bool false, .pointer (some ⟨lb, 0, none⟩), .int .i64 N, .pointer (some ⟨b, 0, none⟩), .pointer (some ⟨b, 0, none⟩), .pointer (some ⟨b, 1, none⟩), .pointer (some ⟨rb, 0, none⟩), .int .i64 N, .bool false, .bool false, .pointer (some ⟨lb, 0, none⟩), .func (.func 95) #[] #[.pointer (some ⟨y, 0, none⟩)], .int .i64 (x.1 : Int), undef, undef, undef, undef, undef, undef, undef, undef, undef, undef, undef, undef, undef], defers := [] }) ?assign ?body ?done ?stop
    case assign =>
      intro l x W K hK
      simp only [encB]
      gi_wp2
      exact hK
    case body =>
      rintro l pre x W ⟨hB, hall⟩ hlen
      have hB' : Ext W2 W := hB
      have k0 := hB'.cell K.out.1; have k1 := hB'.cell K.out.2.1; have f1 := hB'.frozenAt K.out.2.1 K.out.2.2.1; have c1 := hB'.cell K.out.2.2.2
      have HB := Lib.hid hB'; have HA := Lib.hid hall
      obtain ⟨n, hn⟩ : ∃ n, x.1 = n := ⟨_, rfl⟩
      have XN := Lib.hid (show n < r.length ∧ bnth r n = true by rw [← hn]; exact x.2)
      have HX := Lib.hid hn
      simp only [hn]
      clear hB hB' hall hn
      cases hb : bnth bs n
      · have GE := Lib.hid (row_Get (i := (n : Int)) bs false (H.out.row.ext (X2.out.trans HB.out)) (by rw [bget_nat, hb]))
        have HBB := Lib.hid hb
        clear hb
        gi_wp2_with (first | (refine ⟨trivial, ?_⟩; gi_at_call 27; refine (CallsIn.inRound l (callsIn_wide.2 GE.out)).mono ?_; rintro e w' ⟨rfl, rfl⟩))
        refine ⟨KeepsOthers.setCell _ _ _, ⟨rfl, World.cell?_setCell_same _ _ _ k1, n, XN.out.2, HBB.out⟩, (X2.out.trans HB.out).setCell (p := ⟨z + 1, 0, none⟩) (by have := HZ.out; show w.heap.size ≤ z + 1; omega) _⟩
      · have GE := Lib.hid (row_Get (i := (n : Int)) bs true (H.out.row.ext (X2.out.trans HB.out)) (by rw [bget_nat, hb]))
        have HBB := Lib.hid hb
        clear hb
        gi_wp2_with (first | (refine ⟨trivial, ?_⟩; gi_at_call 27; refine (CallsIn.inRound l (callsIn_wide.2 GE.out)).mono ?_; rintro e w' ⟨rfl, rfl⟩))
        refine ⟨KeepsOthers.refl _, Chg.refl _ _, HB.out, fun x' hx' => ?_⟩
        rcases List.mem_append.1 hx' with h | h
        · exact HA.out x' h
        · rw [List.mem_singleton.1 h, HX.out]; exact HBB.out
    case stop =>
      rintro D cc pre W hD _ ⟨⟨rfl, c9, i, hi1, hi2⟩, hB⟩ hK
      gi_wp2
      refine ⟨by simp, .inl ⟨_, _, rfl, run_takeDeferred hK, ?_⟩⟩
      have e1 := cell_kept c9 (grownBy_putObj' _ D (.deferred none)) (fun r e => by cases e; exact ⟨_, hK, rfl⟩)
      have hr := HR.out
      unfold giveAllR at hr
      rw [if_neg (fun hh => by
        have hin : i < bs.length := by
          rcases Nat.lt_or_ge i r.length with g | g
          · have := RL.out; omega
          · rw [bnth_out g] at hi1; cases hi1
        rw [hh i hin hi1] at hi2; cases hi2)] at hr
      cases hr
      have hE : Ext w (W.putObj D (.deferred none)) := Chg.ext (((Chg.of_ext (P := fun _ => False) hB).new ((Chg.refl _ W).putObj (by have := X2.out.size; show w.heap.size ≤ D; omega) _)))
      refine ⟨.int .i64 9, ?_, rfl, H.out.ext hE, Chg.of_ext hE⟩
      simp [results, Tryd.f35, go_sem, e1]
    case done =>
      rintro D ys W hD rfl ⟨hB, hall⟩ hK
      have hB' : Ext W2 W := hB
      have HS : Hid (∀ i, bnth r i = true → bnth bs i = true) := Lib.hid fun i hi => by
        have hir : i < r.length := by
          rcases Nat.lt_or_ge i r.length with g | g
          · exact g
          · rw [bnth_out g] at hi; cases hi
        exact hall ⟨i, hir, hi⟩ (onesTo_mem.2 hir)
      have hr := HR.out
      unfold giveAllR at hr
      rw [if_pos (fun i _ hi => HS.out i hi)] at hr
      obtain ⟨rfl, rfl⟩ : bless bs r = bs' ∧ 0 = q := by cases hr; exact ⟨rfl, rfl⟩
      have k0 := hB'.cell K.out.1
      have HB := Lib.hid (X2.out.trans hB'); have HK1 := Lib.hid hK; have HB2 := Lib.hid hB'
      clear hr hall hB hB' hK
      gi_wp2_with (first | (refine ⟨trivial, ?_⟩; gi_at_call 73; refine (callsIn_wide.2 (arena_each _)).mono ?_; rintro e w' ⟨rfl, rfl⟩))
      obtain ⟨y2, hy2⟩ : ∃ y, W.heap.size = y := ⟨_, rfl⟩
      obtain ⟨W3, hW3⟩ : ∃ V, W.alloc (.cells #[.pointer (some ⟨lb, 0, none⟩)] 64) = V := ⟨_, rfl⟩
      have x3 : Ext W W3 := by rw [← hW3]; exact (Ext.refl _).alloc _
      have cy : W3.cell? ⟨y2, 0, none⟩ = some (.pointer (some ⟨lb, 0, none⟩)) := by rw [← hW3, ← hy2]; exact cell_newN W _ _ 0
      have sz3 : W3.heap.size = y2 + 1 := by rw [← hW3, ← hy2]; simp
      have X3 := Lib.hid (HB.out.trans x3)
      have zy2 : y ≤ y2 := by have := HB2.out.size; omega
      have Dlt : D < W.heap.size := (Array.getElem?_eq_some_iff.1 HK1.out).1
      have k0 := x3.cell k0; have k1 := x3.cell (HB2.out.cell K.out.2.1); have f1 := x3.frozenAt (HB2.out.cell K.out.2.1) (HB2.out.frozenAt K.out.2.1 K.out.2.2.1)
      have K3 := Lib.hid (And.intro k0 (And.intro k1 f1))
      have D3 := Lib.hid (x3.block HK1.out)
      obtain ⟨ab, abg⟩ := AP.out
      have ST2 := Lib.hid (each_stops (r := r) 3 (by decide) y2 lb lg N (fun k => arB b rg k ∨ W3.heap.size ≤ k) (RL.out.trans HN.out) (by unfold arB; omega) (by unfold arB at ab ⊢; omega) (by unfold arB at abg ⊢; omega) (by have := TB.out; have t : 0 < w.heap.size := cell_lt (HT.out 0 (by decide)); have := X3.out.size; unfold arB at *; omega) W3 cy (HL.out.ext X3.out) (HT.out.ext X3.out))
      have l3 : b < W3.heap.size ∧ pb < W3.heap.size ∧ gp < W3.heap.size ∧ rb < W3.heap.size ∧ rg < W3.heap.size := by have := X3.out.size; omega
      have LN := Lib.hid (show r.length = nS c t by rw [RL.out]; exact H.out.len)
      rw [hW3, hy2]
      clear cy hW3 k0 k1 f1 x3 ab abg ST
      refine wpIn_rangeFunc_ownF rfl (by omega) (gf := 95) (lb := #[.pointer (some ⟨y2, 0, none⟩)]) rfl trivial (enters_of Tryd.func95 (by kernel_rfl) rfl)
        ST2.out (fun h k => h.trans k) (fun W l o o' hl _ _ _ => (Chg.refl _ W).putObj (.inr hl) o') (Below.refl _ _) (fun _ => rfl)
        (fun pre V => GiveI W3 b pb gp rb rg c t bs r pre V)
        (fun _ _ _ => False)
        (fun s A B row hs hg hr => hs.own l3 hg hr)
        (fun cc s A B row hs hg hr => hs.elim)
        (GiveI.start (H.out.ext X3.out))
        (fun x => { tmps := #[.pointer (some ⟨b, 0, none⟩), .pointer (some ⟨lb, 0, none⟩), .pointer (some ⟨z, 0, none⟩), undef, .pointer (some ⟨z + 1, 0, none⟩), undef, .int .i64 (x.1 : Int), .bool false, .pointer (some ⟨b, 0, none⟩), .bool false, .bool false, .pointer (some ⟨lb, 0, none⟩), .pointer (some ⟨b1, 0, none⟩), .bool false, .bool false, .pointer (some ⟨lb, 0, none⟩), .int .i64 N, .pointer (some ⟨b, 0, none⟩), .pointer (some ⟨b, 0, none⟩), .pointer (some ⟨b, 1, none⟩), .pointer (some ⟨rb, 0, none⟩), .int .i64 N, .bool false, .bool false, .pointer (some ⟨lb, 0, none⟩), .func (.func 95) #[] #[.pointer (some ⟨y, 0, none⟩)], undef, undef, undef, undef, undef, undef, undef, undef, .pointer (some ⟨lb, 0, none⟩), .func (.func 95) #[] #[.pointer (some ⟨y2, 0, none⟩)], .int .i64 (x.1 : Int), undef, undef, undef], defers := [] }) ?assign ?body ?done ?stop
      case assign =>
        intro l x W K hK
        simp only [encB]
        gi_wp2
        exact hK
      case body =>
        rintro l pre x V hG hlen
        have nz : ¬ arB b rg z := by unfold arB; omega
        have k0 := hG.1.cell (p := ⟨z, 0, none⟩) nz K3.out.1
        have GR := Lib.hid (hG.round (x := x) (by have := RL.out; have := HN.out; omega) LN.out HS.out)
        clear hG nz
        gi_wp2_with (first | (refine ⟨trivial, ?_⟩; gi_at_call 72; refine (CallsIn.inRound l (callsIn_wide.2 GR.out)).mono ?_; rintro e W' ⟨rfl, g1, g2, g3⟩))
        exact ⟨g2, g3.mono fun k hk => .inl hk, g1⟩
      case stop =>
        rintro D2 cc pre V _ _ hf _
        exact hf.elim
      case done =>
        rintro D2 ys V hD2 rfl hG hK2
        have nz1 : ¬ arB b rg (z + 1) := by unfold arB; omega
        have nD : ¬ arB b rg D := by unfold arB; omega
        have k1 := hG.1.cell (p := ⟨z + 1, 0, none⟩) nz1 K3.out.2.1
        have f1 : V.frozen? ⟨z + 1, 0, none⟩ = false := by rw [hG.1.frozen (p := ⟨z + 1, 0, none⟩) (cell_lt K3.out.2.1) nz1]; exact K3.out.2.2
        have kD : V.heap[D]? = some (.deferred (some [])) := by rw [hG.1.block D (by omega) nD]; exact D3.out
        have HG := Lib.hid hG
        have HK2 := Lib.hid hK2
        have KD := Lib.hid kD
        clear hG hK2 kD nz1 nD
        gi_wp2
        have hK2' := (KeepsOthers.setCell V ⟨z + 1, 0, none⟩ (.int .i64 0)).same D2 _ HK2.out rfl
        have hKD' := (KeepsOthers.setCell V ⟨z + 1, 0, none⟩ (.int .i64 0)).same D _ KD.out rfl
        refine ⟨by simp, .inl ⟨_, _, rfl, run_takeDeferred hK2', ?_⟩⟩
        have hKD2 : ((V.setCell ⟨z + 1, 0, none⟩ (.int .i64 0)).putObj D2 (.deferred none)).heap[D]? = some (.deferred (some [])) := by
          rw [World.putObj_heap_other (by omega)]; exact hKD'
        refine ⟨by simp, .inl ⟨_, _, rfl, run_takeDeferred hKD2, ?_⟩⟩
        have e0 := World.cell?_setCell_same V ⟨z + 1, 0, none⟩ (.int .i64 0) k1
        have e1 := cell_kept e0 (grownBy_putObj' _ D2 (.deferred none)) (fun r e => by cases e; exact ⟨_, hK2', rfl⟩)
        have e2 := cell_kept e1 (grownBy_putObj' _ D (.deferred none)) (fun r e => by cases e; exact ⟨_, hKD2, rfl⟩)
        have hc : Chg (fun k => w.heap.size ≤ k) V (((V.setCell ⟨z + 1, 0, none⟩ (.int .i64 0)).putObj D2 (.deferred none)).putObj D (.deferred none)) :=
          (((Chg.refl _ V).setCell (p := ⟨z + 1, 0, none⟩) (.inl (by show w.heap.size ≤ z + 1; omega)) _).putObj (by show w.heap.size ≤ D2; omega) _).putObj (by show w.heap.size ≤ D; omega) _
        have lt := LT.out
        refine ⟨.int .i64 0, ?_, rfl, HG.out.done.chg hc (by omega) ⟨by omega, by omega⟩ ⟨by omega, by omega⟩, ((Chg.of_ext X3.out).trans HG.out.1).new hc⟩
        simp [results, Tryd.f35, go_sem, e2]
end Go.Proofs.YtlhajoamebfniaaDoor
