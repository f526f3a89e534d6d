/-
  Merged texts: Arena, Arena2, Grey, Arena3, Grey2, QuietB, Grey3, Grey4, Grey5.
-/
import Derived.Test.YtlhajoamebfniaaDoorG06
import Derived.Test.YtlhajoamebfniaaDoorG08
import Derived.Test.YtlhajoamebfniaaDoorG07
import Derived.Deep.RegionHeld3
import Derived.Test.YtlhajoamebfniaaDoorG01
import Derived.Lib.QuietBelow
import Derived.BigQuiet
import Derived.BigRegion
set_option linter.unusedVariables false
set_option linter.unusedSimpArgs false
/-! arena: its shape in the memory; turn, Take, give, Give. -/
namespace Go.Proofs.YtlhajoamebfniaaDoor
open Go.RowKit

theorem PlanAt.chg {P : Nat → Prop} {w w' : World} {b gp : Nat} {c : Conf} {t : Nat} (h : PlanAt w b gp c t) (hx : Chg P w w') (hb : ¬ P b) (hg : ¬ P gp) : PlanAt w' b gp c t := by
  obtain ⟨cap, h0⟩ := h.parts
  exact ⟨h.ok, h.ti, ⟨cap, hx.cell hb h0⟩, hx.cell hb h.slots, hx.cell hb h.pages, hx.cell hb h.page, fun i hi j u hu => hx.cell hg (h.row i hi j u hu)⟩
theorem PlanAt.lt {w : World} {b gp : Nat} {c : Conf} {t : Nat} (h : PlanAt w b gp c t) : b < w.heap.size ∧ gp < w.heap.size :=
  ⟨cell_lt h.page, cell_lt (h.row 0 h.ok.cl.pos 0 _ rfl)⟩

/-- The blocks that what is done to an arena turns. -/
def arB (b rg k : Nat) : Prop := k = b ∨ k = rg
/-- An arena of the plan pb: its box b, its row's box rb, that one's words' block rg; the slots that are taken. -/
structure ArenaU (w : World) (b pb gp rb rg : Nat) (c : Conf) (t : Nat) (bs : List Bool) (u : Int) : Prop where
  plan : PlanAt w pb gp c t
  row : RowAt w rb rg bs
  len : bs.length = nS c t
  c0 : w.cell? ⟨b, 0, none⟩ = some (.pointer (some ⟨pb, 0, none⟩))
  c1 : w.cell? ⟨b, 1, none⟩ = some (.pointer (some ⟨rb, 0, none⟩))
  c2 : w.cell? ⟨b, 2, none⟩ = some (.int .i64 u)
  fz : w.frozen? ⟨b, 2, none⟩ = false
  n1 : rb ≠ b
  n2 : rg ≠ b
  n3 : pb ≠ b ∧ pb ≠ rg
  n4 : gp ≠ b ∧ gp ≠ rg
/-- What is used is the sizes' sum. -/
abbrev ArenaAt (w : World) (b pb gp rb rg : Nat) (c : Conf) (t : Nat) (bs : List Bool) : Prop := ArenaU w b pb gp rb rg c t bs (usedOf c t bs)
variable {w w' : World} {b pb gp rb rg : Nat} {c : Conf} {t : Nat} {bs bs' : List Bool} {u u0 : Int}
theorem ArenaU.pos (h : ArenaU w b pb gp rb rg c t bs u) : 0 < bs.length := by have := h.plan.ok.nS_pos h.plan.ti; rw [h.len]; omega
theorem ArenaU.chg {P : Nat → Prop} (h : ArenaU w b pb gp rb rg c t bs u) (hx : Chg P w w') (hb : ¬ P b) (hp : ¬ P pb ∧ ¬ P gp) (hr : ¬ P rb ∧ ¬ P rg) : ArenaU w' b pb gp rb rg c t bs u :=
  ⟨h.plan.chg hx hp.1 hp.2, h.row.chg hx hr.1 fun _ => hr.2, h.len, hx.cell hb h.c0, hx.cell hb h.c1, hx.cell hb h.c2, by rw [hx.frozen (p := ⟨b, 2, none⟩) (cell_lt h.c2) hb]; exact h.fz, h.n1, h.n2, h.n3, h.n4⟩
theorem ArenaU.ext (h : ArenaU w b pb gp rb rg c t bs u) (hx : Ext w w') : ArenaU w' b pb gp rb rg c t bs u :=
  h.chg (P := fun _ => False) (Chg.of_ext hx) (fun a => a) ⟨fun a => a, fun a => a⟩ ⟨fun a => a, fun a => a⟩
theorem ArenaU.lt (h : ArenaU w b pb gp rb rg c t bs u) : b < w.heap.size ∧ pb < w.heap.size ∧ gp < w.heap.size ∧ rb < w.heap.size ∧ rg < w.heap.size :=
  ⟨cell_lt h.c0, h.plan.lt.1, h.plan.lt.2, h.row.lt, h.row.glt h.pos⟩
/-- Behind a turn of the row and a store of what is used. -/
theorem ArenaU.turned {w1 : World} (h : ArenaU w b pb gp rb rg c t bs u0) (hr : RowAt w1 rb rg bs') (hx : Chg (tch rg bs) w w1) (hl : bs'.length = bs.length) (u : Int) :
    ArenaU (w1.setCell ⟨b, 2, none⟩ (.int .i64 u)) b pb gp rb rg c t bs' u ∧ Chg (arB b rg) w (w1.setCell ⟨b, 2, none⟩ (.int .i64 u)) := by
  have nb : ¬ tch rg bs b := fun q => h.n2 q.2.symm
  have x2 : Chg (fun k => k = b) w1 (w1.setCell ⟨b, 2, none⟩ (.int .i64 u)) := Chg.setCell (P := fun k => k = b) (p := ⟨b, 2, none⟩) (Chg.refl _ w1) (.inl rfl) _
  have d2 := hx.cell nb h.c2
  have oth : ∀ i v, i ≠ 2 → w1.cell? ⟨b, i, none⟩ = some v → (w1.setCell ⟨b, 2, none⟩ (.int .i64 u)).cell? ⟨b, i, none⟩ = some v := fun i v hi hc => by
    have := World.cell?_setCell_other w1 ⟨b, 2, none⟩ ⟨b, i, none⟩ (.int .i64 u) (by intro e; cases e; exact hi rfl)
    rw [this]; exact hc
  refine ⟨⟨(h.plan.chg hx (fun q => h.n3.2 q.2) (fun q => h.n4.2 q.2)).chg x2 h.n3.1 h.n4.1, hr.chg x2 h.n1 fun _ => h.n2, by rw [hl]; exact h.len, oth 0 _ (by decide) (hx.cell nb h.c0), oth 1 _ (by decide) (hx.cell nb h.c1), World.cell?_setCell_same _ _ _ d2, ?_, h.n1, h.n2, h.n3, h.n4⟩, ?_⟩
  · simp only [World.frozen?_setCell]
    rw [hx.frozen (p := ⟨b, 2, none⟩) (cell_lt h.c2) nb]; exact h.fz
  · exact (hx.mono fun k q => .inr q.2).trans (x2.mono fun k q => .inl q)

/-- An arena that is none. -/
def NoArena (w : World) (p : Option Addr) : Prop := p = none ∨ ∃ b, p = some ⟨b, 0, none⟩ ∧ w.cell? ⟨b, 1, none⟩ = some (.pointer none)
theorem NoArena.ext {p : Option Addr} (h : NoArena w p) (hx : Ext w w') : NoArena w' p := by
  rcases h with h | ⟨b, h, h1⟩
  · exact .inl h
  · exact .inr ⟨b, h, hx.cell h1⟩
set_option maxHeartbeats 1000000 in
theorem arena_none (h : ArenaAt w b pb gp rb rg c t bs) : Calls Tryd.prog 64 #[.pointer (some ⟨b, 0, none⟩)] w fun e w' => e = .returned (.bool false) ∧ w = w' := by
  have h1 := h.c1
  clear h
  go_enter Tryd.func64, Tryd.ntmps64
  go_wp2_with fail
  go_ret
  exact ⟨rfl, rfl⟩
set_option maxHeartbeats 1000000 in
theorem arena_none_no {p : Option Addr} (h : NoArena w p) : Calls Tryd.prog 64 #[.pointer p] w fun e w' => e = .returned (.bool true) ∧ w = w' := by
  rcases h with rfl | ⟨b, rfl, h1⟩
  · go_enter Tryd.func64, Tryd.ntmps64
    go_wp2_with fail
    go_ret
    exact ⟨rfl, rfl⟩
  · go_enter Tryd.func64, Tryd.ntmps64
    go_wp2_with fail
    go_ret
    exact ⟨rfl, rfl⟩

theorem enters_take1 : Enters Tryd.prog 68 := Enters.mk Tryd.func68 (by kernel_rfl) rfl
theorem enters_give1 : Enters Tryd.prog 94 := Enters.mk Tryd.func94 (by kernel_rfl) rfl
set_option maxHeartbeats 1000000 in
theorem arena_take1 {z : Nat} {s u v : Int} (h0 : w.cell? ⟨z, 0, none⟩ = some (.pointer (some ⟨b, 0, none⟩))) (h2 : w.cell? ⟨b, 2, none⟩ = some (.int .i64 u)) (hs : 0 ≤ s ∧ s ≤ 64) (hu : 0 ≤ u ∧ u ≤ 1048576) (hv : u + s = v) :
    Calls Tryd.prog 68 #[.int .i64 s, .pointer (some ⟨z, 0, none⟩)] w fun e w' => e = .returned (.int .i64 v) ∧ w = w' := by
  subst hv
  obtain ⟨s0, s1⟩ := hs
  obtain ⟨u0, u1⟩ := hu
  go_enter Tryd.func68, Tryd.ntmps68
  go_wp2_with fail
  go_ret
  exact ⟨rfl, rfl⟩
set_option maxHeartbeats 1000000 in
theorem arena_give1 {z : Nat} {s u v : Int} (h0 : w.cell? ⟨z, 0, none⟩ = some (.pointer (some ⟨b, 0, none⟩))) (h2 : w.cell? ⟨b, 2, none⟩ = some (.int .i64 u)) (hs : 0 ≤ s ∧ s ≤ 64) (hu : -1048576 ≤ u ∧ u ≤ 1048576) (hv : u - s = v) :
    Calls Tryd.prog 94 #[.int .i64 s, .pointer (some ⟨z, 0, none⟩)] w fun e w' => e = .returned (.int .i64 v) ∧ w = w' := by
  subst hv
  obtain ⟨s0, s1⟩ := hs
  obtain ⟨u0, u1⟩ := hu
  go_enter Tryd.func94, Tryd.ntmps94
  go_wp2_with fail
  go_ret
  exact ⟨rfl, rfl⟩

set_option maxHeartbeats 4000000 in
theorem arena_turnU {g z s : Nat} {v : Bool} {u u0 : Int} (h : ArenaU w b pb gp rb rg c t bs u0) (hs : s < nS c t) (hk : Enters Tryd.prog g)
    (hg : ∀ W, W.cell? ⟨z, 0, none⟩ = some (.pointer (some ⟨b, 0, none⟩)) → W.cell? ⟨b, 2, none⟩ = some (.int .i64 u0) → Calls Tryd.prog g #[.int .i64 (szOf c t s), .pointer (some ⟨z, 0, none⟩)] W fun e w' => e = .returned (.int .i64 u) ∧ W = w')
    (hz : w.cell? ⟨z, 0, none⟩ = some (.pointer (some ⟨b, 0, none⟩))) (nz : z ≠ rg) :
    Calls Tryd.prog 67 #[.pointer (some ⟨b, 0, none⟩), .int .i64 s, .bool v, .func (.func g) #[] #[.pointer (some ⟨z, 0, none⟩)]] w fun e w' => e = .returned (.tuple #[]) ∧ ArenaU w' b pb gp rb rg c t (bs.set s v) u ∧ Chg (arB b rg) w w' := by
  unfold Enters at hk
  have hsl : s < bs.length := by rw [h.len]; exact hs
  have SK := Lib.hid (slot_at h.plan.ok h.plan.ti hs)
  have SZ := Lib.hid (show nth c.cl (kOf c t (s : Int)) = szOf c t s from rfl)
  have BR := Lib.hid (bsetR_yes (is := v) hsl)
  have HL : Hid ((bs.set s v).length = bs.length) := Lib.hid (by rw [List.length_set])
  have H := Lib.hid h; have HG := Lib.hid hg; have HZ := Lib.hid hz
  have c0 := h.c0; have c1 := h.c1
  have nt : ¬ tch rg bs z := fun q => nz q.2
  have nb : ¬ tch rg bs b := fun q => h.n2 q.2.symm
  clear h hg hz hsl hs
  go_enter Tryd.func67, Tryd.ntmps67
  go_wp2_with fail
  refine (slot_SizeV _ SZ.out H.out.plan SK.out).mono ?_
  rintro e w1 ⟨rfl, x1⟩
  have X1 := Lib.hid x1
  replace c1 := x1.cell c1
  clear x1 c0
  go_wp2_with fail
  refine (row_Set bs _ 0 (H.out.row.ext X1.out) BR.out).mono ?_
  rintro e w2 ⟨rfl, hr2, hc2⟩
  have z2 := hc2.cell nt (X1.out.cell HZ.out)
  have u2 := hc2.cell nb (X1.out.cell H.out.c2)
  have f2 : w2.frozen? ⟨b, 2, none⟩ = false := by rw [hc2.frozen (p := ⟨b, 2, none⟩) (cell_lt (X1.out.cell H.out.c2)) nb]; exact X1.out.frozenAt H.out.c2 H.out.fz
  have HR2 := Lib.hid hr2; have HC2 := Lib.hid ((Chg.of_ext X1.out).trans hc2)
  have CG := Lib.hid (HG.out w2 z2 u2)
  clear hr2 hc2 z2 c1
  go_wp2_with fail
  refine CG.out.mono ?_
  rintro e w3 ⟨rfl, rfl⟩
  go_wp2_with fail
  go_end0
  obtain ⟨q1, q2⟩ := H.out.turned HR2.out HC2.out HL.out u
  exact ⟨rfl, q1, q2⟩
theorem arena_turn {g z s : Nat} {v : Bool} {u : Int} (h : ArenaAt w b pb gp rb rg c t bs) (hs : s < nS c t) (hk : Enters Tryd.prog g) (hu : usedOf c t (bs.set s v) = u)
    (hg : ∀ W, W.cell? ⟨z, 0, none⟩ = some (.pointer (some ⟨b, 0, none⟩)) → W.cell? ⟨b, 2, none⟩ = some (.int .i64 (usedOf c t bs)) → Calls Tryd.prog g #[.int .i64 (szOf c t s), .pointer (some ⟨z, 0, none⟩)] W fun e w' => e = .returned (.int .i64 u) ∧ W = w')
    (hz : w.cell? ⟨z, 0, none⟩ = some (.pointer (some ⟨b, 0, none⟩))) (nz : z ≠ rg) :
    Calls Tryd.prog 67 #[.pointer (some ⟨b, 0, none⟩), .int .i64 s, .bool v, .func (.func g) #[] #[.pointer (some ⟨z, 0, none⟩)]] w fun e w' => e = .returned (.tuple #[]) ∧ ArenaAt w' b pb gp rb rg c t (bs.set s v) ∧ Chg (arB b rg) w w' := by
  subst hu
  exact arena_turnU h hs hk hg hz nz

end Go.Proofs.YtlhajoamebfniaaDoor

/-! arena.Take, arena.give, arena.Give. -/
namespace Go.Proofs.YtlhajoamebfniaaDoor
open Go.RowKit
variable {w w' : World} {b pb gp rb rg : Nat} {c : Conf} {t : Nat} {bs bs' : List Bool}

set_option maxHeartbeats 4000000 in
theorem arena_Take {k p e : Int} (h : ArenaAt w b pb gp rb rg c t bs) (hT : Tab w) (hr : TakeR c t bs k bs' p e) :
    Calls Tryd.prog 26 #[.pointer (some ⟨b, 0, none⟩), .int .i64 k] w fun r w' => r = .returned (.tuple #[.int .i64 p, .int .i64 e]) ∧ ArenaAt w' b pb gp rb rg c t bs' ∧ Chg (arB b rg) w w' := by
  have hmf : ∀ (fn : Fn) (first cap : Array Value) (w : World), (Instr.makeFunc fn first cap).run Tryd.prog w = .ok (.func fn first cap) w := fun _ _ _ _ => rfl
  have x0 := (Ext.refl w).alloc (.cells #[.pointer (some ⟨b, 0, none⟩)] 51)
  have H := Lib.hid (h.ext x0)
  have HT := Lib.hid (hT.ext x0)
  have X0 := Lib.hid x0
  have c0 := (h.ext x0).c0; have c1 := (h.ext x0).c1
  have cz := cell_new1 w (.pointer (some ⟨b, 0, none⟩)) 51
  have HR := Lib.hid hr
  have hlt := h.lt
  clear x0 h hT
  rcases hr with ⟨hk, rfl, rfl, rfl⟩ | ⟨j, rfl, hj, hr⟩
  · by_cases hn : k < 0
    · have ON := Lib.hid (fun W (h : PlanAt W pb gp c t) => slot_Of_neg h hn)
      clear hk hn HR
      go_enter Tryd.func26, Tryd.ntmps26
      go_wp2_with fail
      refine (arena_none H.out).mono ?_
      rintro e w1000 ⟨rfl, rfl⟩
      go_wp2_with fail
      refine (ON.out _ H.out.plan).mono ?_
      rintro e w1 ⟨rfl, x1⟩
      go_wp2_with fail
      go_ret2
      exact ⟨rfl, H.out.ext x1, Chg.of_ext (X0.out.trans x1)⟩
    · have ON := Lib.hid (fun W (h : PlanAt W pb gp c t) => slot_Of_no (k := k) h (by omega))
      clear hk hn HR
      go_enter Tryd.func26, Tryd.ntmps26
      go_wp2_with fail
      refine (arena_none H.out).mono ?_
      rintro e w1000 ⟨rfl, rfl⟩
      go_wp2_with fail
      refine (ON.out _ H.out.plan).mono ?_
      rintro e w1 ⟨rfl, x1⟩
      go_wp2_with fail
      go_ret2
      exact ⟨rfl, H.out.ext x1, Chg.of_ext (X0.out.trans x1)⟩
  · obtain ⟨p', q, hnx⟩ := next_exists bs (sS c t j) false
    have NX := Lib.hid hnx
    have ON := Lib.hid (fun W (h : PlanAt W pb gp c t) => slot_Of h hj)
    have hs0 := H.out.plan.ok.sS_le H.out.plan.ti (k := j) (by omega)
    have hs1 := H.out.plan.ok.sS_le H.out.plan.ti (k := j + 1) (by omega)
    have hsu : sS c t (j + 1) = sS c t j + slotsOf c t j := rfl
    have m8 := H.out.plan.ok.cl.most
    have hle := H.out.plan.ok.nS_le H.out.plan.ti
    have hne := H.out.plan.ok.nS_eq H.out.plan.ti
    by_cases hq : q = true ∧ p' < sS c t j + slotsOf c t j
    · obtain ⟨rfl, hlt'⟩ := hq
      rcases hnx with ⟨_, s, rfl, h1, h2, h3, h4⟩ | ⟨hf, _⟩
      · have hin : ofClass c t j s := ⟨h1, by rw [hsu]; exact hlt'⟩
        obtain ⟨rfl, rfl, rfl⟩ : bs' = bs.set s true ∧ p = (s : Int) ∧ e = 0 := by
          rcases hr with ⟨s', a1, a2, a3, rfl, rfl, rfl⟩ | ⟨a1, _⟩
          · rcases Nat.lt_trichotomy s s' with g | g | g
            · rw [a3 s hin g] at h3; cases h3
            · subst g; exact ⟨rfl, rfl, rfl⟩
            · have := h4 s' a1.1 g; rw [a2] at this; cases this
          · rw [a1 s hin] at h3; cases h3
        have hsn : s < nS c t := by rw [← H.out.len]; exact h2
        have SZ := szOf_bd H.out.plan.ok H.out.plan.ti hsn
        have US := used_take H.out.len h2 h3
        have UB := usedOf_bd H.out.plan.ok H.out.plan.ti bs
        have t1 : decide (sS c t j + slotsOf c t j ≤ (s : Int)) = false := decide_eq_false (by omega)
        have AT := Lib.hid (fun W (h : ArenaAt W b pb gp rb rg c t bs) (hz : W.cell? ⟨w.heap.size, 0, none⟩ = some (.pointer (some ⟨b, 0, none⟩))) =>
          arena_turn (v := true) h hsn enters_take1 US (fun W z1 z2 => arena_take1 z1 z2 ⟨by omega, SZ.2⟩ UB rfl) hz (by omega))
        clear HR hr h4 hin h3 US UB SZ
        go_enter Tryd.func26, Tryd.ntmps26
        go_wp2_with fail
        refine (arena_none H.out).mono ?_
        rintro e w1000 ⟨rfl, rfl⟩
        go_wp2_with fail
        refine (ON.out _ H.out.plan).mono ?_
        rintro e w1 ⟨rfl, x1⟩
        replace c1 := x1.cell c1
        replace cz := x1.cell cz
        go_wp2_with fail
        refine (row_Next bs _ _ (H.out.row.ext x1) (HT.out.ext x1) NX.out).mono ?_
        rintro e w2 ⟨rfl, x2⟩
        replace c1 := x2.cell c1
        replace cz := x2.cell cz
        replace x1 := x1.trans x2
        clear x2
        go_wp2_with fail
        refine (AT.out _ (H.out.ext x1) cz).mono ?_
        rintro e w3 ⟨rfl, h3, hc3⟩
        go_wp2_with fail
        go_ret2
        exact ⟨rfl, h3, (Chg.of_ext (X0.out.trans x1)).trans hc3⟩
      · cases hf
    · have hno : ∀ i : Nat, ofClass c t j i → bnth bs i = true := by
        intro i hi
        rcases hnx with ⟨hq1, s, rfl, h1, h2, h3, h4⟩ | ⟨_, _, h4⟩
        · have g : sS c t j + slotsOf c t j ≤ (s : Int) := by
            rcases Int.lt_or_le (s : Int) (sS c t j + slotsOf c t j) with g | g
            · exact absurd ⟨hq1, g⟩ hq
            · exact g
          have := hi.2
          exact h4 i hi.1 (by omega)
        · exact h4 i hi.1 (by rw [H.out.len]; exact ofClass_lt H.out.plan.ok H.out.plan.ti hj hi)
      obtain ⟨rfl, rfl, rfl⟩ : bs' = bs ∧ p = 0 ∧ e = 6 := by
        rcases hr with ⟨s', a1, a2, a3, rfl, rfl, rfl⟩ | ⟨a1, a2⟩
        · rw [hno s' a1] at a2; cases a2
        · exact a2
      cases q
      · clear HR hr hno hq hnx
        go_enter Tryd.func26, Tryd.ntmps26
        go_wp2_with fail
        refine (arena_none H.out).mono ?_
        rintro e w1000 ⟨rfl, rfl⟩
        go_wp2_with fail
        refine (ON.out _ H.out.plan).mono ?_
        rintro e w1 ⟨rfl, x1⟩
        replace c1 := x1.cell c1
        replace cz := x1.cell cz
        go_wp2_with fail
        refine (row_Next bs' _ _ (H.out.row.ext x1) (HT.out.ext x1) NX.out).mono ?_
        rintro e w2 ⟨rfl, x2⟩
        replace x1 := x1.trans x2
        clear x2
        go_wp2_with fail
        go_ret2
        exact ⟨rfl, H.out.ext x1, Chg.of_ext (X0.out.trans x1)⟩
      · have t1 : decide (sS c t j + slotsOf c t j ≤ p') = true := decide_eq_true (by
          rcases Int.lt_or_le p' (sS c t j + slotsOf c t j) with g | g
          · exact absurd ⟨rfl, g⟩ hq
          · exact g)
        have tw : wrap64 (sS c t j + slotsOf c t j) = sS c t j + slotsOf c t j := by unfold wrap64; omega
        have t2 : ¬ p' < sS c t j + slotsOf c t j := by simpa using t1
        clear HR hr hno hq hnx
        go_enter Tryd.func26, Tryd.ntmps26
        go_wp2_with fail
        refine (arena_none H.out).mono ?_
        rintro e w1000 ⟨rfl, rfl⟩
        go_wp2_with fail
        refine (ON.out _ H.out.plan).mono ?_
        rintro e w1 ⟨rfl, x1⟩
        replace c1 := x1.cell c1
        replace cz := x1.cell cz
        go_wp2_with fail
        refine (row_Next bs' _ _ (H.out.row.ext x1) (HT.out.ext x1) NX.out).mono ?_
        rintro e w2 ⟨rfl, x2⟩
        replace x1 := x1.trans x2
        clear x2
        go_wp2_with fail
        go_ret2
        exact ⟨rfl, H.out.ext x1, Chg.of_ext (X0.out.trans x1)⟩

set_option maxHeartbeats 4000000 in
theorem arena_giveU {s : Nat} {u : Int} (h : ArenaU w b pb gp rb rg c t bs u) (hs : s < bs.length) (hu : -1048576 ≤ u ∧ u ≤ 1048576) :
    Calls Tryd.prog 72 #[.pointer (some ⟨b, 0, none⟩), .int .i64 s] w fun r w' => r = .returned (.tuple #[]) ∧ ArenaU w' b pb gp rb rg c t (bs.set s false) (u - szOf c t s) ∧ Chg (arB b rg) w w' := by
  have hmf : ∀ (fn : Fn) (first cap : Array Value) (w : World), (Instr.makeFunc fn first cap).run Tryd.prog w = .ok (.func fn first cap) w := fun _ _ _ _ => rfl
  have x0 := (Ext.refl w).alloc (.cells #[.pointer (some ⟨b, 0, none⟩)] 51)
  have H := Lib.hid (h.ext x0)
  have X0 := Lib.hid x0
  have cz := cell_new1 w (.pointer (some ⟨b, 0, none⟩)) 51
  have hlt := h.lt
  have hsn : s < nS c t := by rw [← h.len]; exact hs
  have SZ := szOf_bd h.plan.ok h.plan.ti hsn
  have AT := Lib.hid (arena_turnU (v := false) (u := u - szOf c t s) H.out hsn enters_give1 (fun W z1 z2 => arena_give1 z1 z2 ⟨by omega, SZ.2⟩ hu rfl) cz (by omega))
  clear x0 h hu SZ cz
  go_enter Tryd.func72, Tryd.ntmps72
  go_wp2_with fail
  refine AT.out.mono ?_
  rintro e w3 ⟨rfl, h3, hc3⟩
  go_wp2_with fail
  go_end0
  exact ⟨rfl, h3, (Chg.of_ext X0.out).trans hc3⟩
theorem arena_give {s : Nat} (h : ArenaAt w b pb gp rb rg c t bs) (hs : s < bs.length) (hb : bnth bs s = true) :
    Calls Tryd.prog 72 #[.pointer (some ⟨b, 0, none⟩), .int .i64 s] w fun r w' => r = .returned (.tuple #[]) ∧ ArenaAt w' b pb gp rb rg c t (bs.set s false) ∧ Chg (arB b rg) w w' := by
  have UB := usedOf_bd h.plan.ok h.plan.ti bs
  have := arena_giveU h hs (by omega)
  rw [← used_give h.len hs hb] at this
  exact this

set_option maxHeartbeats 4000000 in
theorem arena_Give {s e : Int} (h : ArenaAt w b pb gp rb rg c t bs) (hr : giveR bs s = (bs', e)) :
    Calls Tryd.prog 32 #[.pointer (some ⟨b, 0, none⟩), .int .i64 s] w fun r w' => r = .returned (.int .i64 e) ∧ ArenaAt w' b pb gp rb rg c t bs' ∧ Chg (arB b rg) w w' := by
  unfold giveR at hr
  have H := Lib.hid h
  have c1 := h.c1
  have hmost := h.row.most
  by_cases hs : 0 ≤ s ∧ s < bs.length
  · rw [if_neg (by simpa using hs)] at hr
    obtain ⟨n, rfl⟩ := Int.eq_ofNat_of_zero_le hs.1
    simp only [Int.toNat_natCast] at hr
    have hn : n < bs.length := by omega
    have GE := Lib.hid (row_Get (i := (n : Int)) bs (bnth bs n) H.out.row (bget_nat bs n))
    clear h
    cases hb : bnth bs n
    · rw [hb] at hr GE
      cases hr
      clear hb
      go_enter Tryd.func32, Tryd.ntmps32
      go_wp2_with fail
      refine (arena_none H.out).mono ?_
      rintro e w1000 ⟨rfl, rfl⟩
      go_wp2_with fail
      refine (row_Len bs H.out.row).mono ?_
      rintro e w1000 ⟨rfl, rfl⟩
      go_wp2_with fail
      refine (GE.out).mono ?_
      rintro e w1000 ⟨rfl, rfl⟩
      go_wp2_with fail
      go_ret
      exact ⟨rfl, H.out, Chg.refl _ _⟩
    · have GV := Lib.hid (arena_give H.out hn hb)
      rw [hb] at hr GE
      cases hr
      clear hb
      go_enter Tryd.func32, Tryd.ntmps32
      go_wp2_with fail
      refine (arena_none H.out).mono ?_
      rintro e w1000 ⟨rfl, rfl⟩
      go_wp2_with fail
      refine (row_Len bs H.out.row).mono ?_
      rintro e w1000 ⟨rfl, rfl⟩
      go_wp2_with fail
      refine (GE.out).mono ?_
      rintro e w1000 ⟨rfl, rfl⟩
      go_wp2_with fail
      refine GV.out.mono ?_
      rintro e w3 ⟨rfl, h3, hc3⟩
      go_wp2_with fail
      go_ret
      exact ⟨rfl, h3, hc3⟩
  · rw [if_pos (by simpa using hs)] at hr
    cases hr
    clear h
    by_cases h0 : s < 0
    · clear hs
      go_enter Tryd.func32, Tryd.ntmps32
      go_wp2_with fail
      refine (arena_none H.out).mono ?_
      rintro e w1000 ⟨rfl, rfl⟩
      go_wp2_with fail
      go_ret
      exact ⟨rfl, H.out, Chg.refl _ _⟩
    · have t1 : decide ((bs.length : Int) ≤ s) = true := decide_eq_true (by omega)
      clear hs
      go_enter Tryd.func32, Tryd.ntmps32
      go_wp2_with fail
      refine (arena_none H.out).mono ?_
      rintro e w1000 ⟨rfl, rfl⟩
      go_wp2_with fail
      refine (row_Len bs H.out.row).mono ?_
      rintro e w1000 ⟨rfl, rfl⟩
      go_wp2_with fail
      go_ret
      exact ⟨rfl, H.out, Chg.refl _ _⟩

end Go.Proofs.YtlhajoamebfniaaDoor

/-! grey: its shape in the memory; none, Len, Owed, owe, pay. -/
namespace Go.Proofs.YtlhajoamebfniaaDoor
open Go.RowKit

/-- A box of some cells. -/
structure BoxG (w : World) (z : Nat) (V : List Value) : Prop where
  c : ∀ i x, V[i]? = some x → w.cell? ⟨z, i, none⟩ = some x
  f : ∀ i, w.frozen? ⟨z, i, none⟩ = false
  lt : z < w.heap.size
section
variable {w w' : World} {z : Nat} {V : List Value}
theorem BoxG.new (w : World) (V : List Value) (u : TypeId) {z : Nat} (hz : w.heap.size = z) : BoxG (w.alloc (.cells V.toArray u)) z V := by
  subst hz
  refine ⟨fun i x hx => ?_, fun i => World.frozen?_alloc_at _ _ _ _ rfl, by simp⟩
  rw [cell_newN]; simpa using hx
theorem BoxG.chg {Q : Nat → Prop} (h : BoxG w z V) (hx : Chg Q w w') (hq : ¬ Q z) : BoxG w' z V :=
  ⟨fun i x e => hx.cell hq (h.c i x e), fun i => by rw [hx.frozen (p := ⟨z, i, none⟩) h.lt hq]; exact h.f i, Nat.lt_of_lt_of_le h.lt hx.size⟩
theorem BoxG.ext (h : BoxG w z V) (hx : Ext w w') : BoxG w' z V := h.chg (Q := fun _ => False) (Chg.of_ext hx) (fun a => a)
theorem BoxG.set (h : BoxG w z V) {i : Nat} (hi : i < V.length) (v : Value) : BoxG (w.setCell ⟨z, i, none⟩ v) z (V.set i v) := by
  refine ⟨fun j x hx => ?_, fun j => by rw [World.frozen?_setCell]; exact h.f j, by simpa using h.lt⟩
  by_cases e : j = i
  · subst e
    rw [List.getElem?_set_self hi] at hx
    cases hx
    exact World.cell?_setCell_same _ _ _ (h.c j _ (List.getElem?_eq_getElem hi))
  · rw [List.getElem?_set_ne (Ne.symm e)] at hx
    rw [World.cell?_setCell_other w ⟨z, i, none⟩ ⟨z, j, none⟩ v (by intro q; cases q; exact e rfl)]
    exact h.c j x hx
theorem BoxG.far (h : BoxG w z V) {p : Addr} (hp : p.block ≠ z) (v : Value) : BoxG (w.setCell p v) z V :=
  ⟨fun i x e => by rw [cell_far _ _ _ _ hp]; exact h.c i x e, fun i => by rw [World.frozen?_setCell]; exact h.f i, by simpa using h.lt⟩
end

/-- The queue in its ring: from place f on, round about. -/
structure RingAt (w : World) (rg n f : Nat) (q : List Int) : Prop where
  fn : f < n
  ql : q.length ≤ n
  all : ∀ i, i < n → ∃ x : Int, w.cell? ⟨rg, i, none⟩ = some (.int .i64 x)
  el : ∀ i, i < q.length → w.cell? ⟨rg, (f + i) % n, none⟩ = some (.int .i64 (nth q i))
  fz : ∀ o, w.frozen? ⟨rg, o, none⟩ = false
section
variable {w w' : World} {rg n f : Nat} {q : List Int}
theorem RingAt.lt (h : RingAt w rg n f q) : rg < w.heap.size := by
  obtain ⟨x, hx⟩ := h.all f h.fn
  exact cell_lt hx
theorem RingAt.chg {Q : Nat → Prop} (h : RingAt w rg n f q) (hx : Chg Q w w') (hq : ¬ Q rg) : RingAt w' rg n f q :=
  ⟨h.fn, h.ql, fun i hi => by obtain ⟨x, hc⟩ := h.all i hi; exact ⟨x, hx.cell hq hc⟩, fun i hi => hx.cell hq (h.el i hi), fun o => by rw [hx.frozen (p := ⟨rg, o, none⟩) h.lt hq]; exact h.fz o⟩
theorem RingAt.far (h : RingAt w rg n f q) {p : Addr} (hp : p.block ≠ rg) (v : Value) : RingAt (w.setCell p v) rg n f q :=
  ⟨h.fn, h.ql, fun i hi => by obtain ⟨x, hc⟩ := h.all i hi; exact ⟨x, by rw [cell_far _ _ _ _ hp]; exact hc⟩, fun i hi => by rw [cell_far _ _ _ _ hp]; exact h.el i hi, fun o => by rw [World.frozen?_setCell]; exact h.fz o⟩
theorem RingAt.clear (h : RingAt w rg n f q) (hn : 0 < n) : RingAt w rg n 0 [] :=
  ⟨hn, Nat.zero_le _, h.all, fun i hi => absurd hi (Nat.not_lt_zero i), h.fz⟩
theorem RingAt.pop {x : Int} (h : RingAt w rg n f (x :: q)) : w.cell? ⟨rg, f, none⟩ = some (.int .i64 x) ∧ RingAt w rg n ((f + 1) % n) q := by
  have hf := h.fn
  have hl := h.ql
  simp only [List.length_cons] at hl
  refine ⟨?_, Nat.mod_lt _ (by omega), by omega, h.all, fun i hi => ?_, h.fz⟩
  · have := h.el 0 (by simp)
    rwa [Nat.add_zero, Nat.mod_eq_of_lt hf] at this
  · have := h.el (i + 1) (by simp; omega)
    rw [Nat.mod_add_mod, show f + 1 + i = f + (i + 1) by omega]
    rw [this]; simp [nth, List.getD]
theorem ring_mod {n f i : Nat} (hf : f < n) (hi : i < n) : (f + i) % n = if f + i < n then f + i else f + i - n := by
  split
  · rename_i h; exact Nat.mod_eq_of_lt h
  · rename_i h
    rw [Nat.mod_eq_sub_mod (by omega), Nat.mod_eq_of_lt (by omega)]
theorem ring_ne {n f i j : Nat} (hf : f < n) (hi : i < n) (hj : j < n) (h : i ≠ j) : (f + i) % n ≠ (f + j) % n := by
  rw [ring_mod hf hi, ring_mod hf hj]
  split <;> split <;> omega
theorem RingAt.push (h : RingAt w rg n f q) (hl : q.length < n) (s : Int) : RingAt (w.setCell ⟨rg, (f + q.length) % n, none⟩ (.int .i64 s)) rg n f (q ++ [s]) := by
  have hf := h.fn
  obtain ⟨x0, hx0⟩ := h.all ((f + q.length) % n) (Nat.mod_lt _ (by omega))
  refine ⟨hf, by simp; omega, fun i hi => ?_, fun i hi => ?_, fun o => by rw [World.frozen?_setCell]; exact h.fz o⟩
  · by_cases e : i = (f + q.length) % n
    · subst e; exact ⟨s, World.cell?_setCell_same _ _ _ hx0⟩
    · obtain ⟨x, hc⟩ := h.all i hi
      exact ⟨x, by rw [World.cell?_setCell_other _ _ _ _ (by intro g; cases g; exact e rfl)]; exact hc⟩
  · simp only [List.length_append, List.length_singleton] at hi
    by_cases e : i = q.length
    · subst e
      rw [World.cell?_setCell_same _ _ _ hx0]
      simp [nth, List.getD]
    · have hne := ring_ne hf (i := i) (j := q.length) (by omega) hl e
      rw [World.cell?_setCell_other _ _ _ _ (by intro g; exact hne (by injection g with _ g2 _; exact g2.symm))]
      rw [h.el i (by omega)]
      have : (q ++ [s])[i]? = q[i]? := List.getElem?_append_left (by omega)
      simp [nth, List.getD, this]
end

/-- The blocks that what is done to a grey turns. -/
def grB (b og dg rg k : Nat) : Prop := k = b ∨ k = og ∨ k = dg ∨ k = rg
/-- The cells of a grey's box. -/
def gcs (ob db pb rg n f : Nat) (g : GS) : List Value := [.pointer (some ⟨ob, 0, none⟩), .pointer (some ⟨db, 0, none⟩), .pointer (some ⟨pb, 0, none⟩), .slice (some ⟨rg, 0, none⟩) n n, .int .i64 f, .int .i64 g.q.length, .int .i64 g.at_, .int .i64 g.en]
/-- A grey of the plan pb: its box b; the slots that are owed (box ob, words og), the pages that are dirty (db, dg), its ring rg of n places, from f on. -/
structure GreyF (w : World) (b pb gp ob og db dg rg : Nat) (c : Conf) (t n f : Nat) (g : GS) : Prop where
  plan : PlanAt w pb gp c t
  ow : RowAt w ob og g.ow
  di : RowAt w db dg g.di
  ok : GOk c t n g
  n1 : 1 ≤ n ∧ n ≤ 64
  box : BoxG w b (gcs ob db pb rg n f g)
  ring : RingAt w rg n f g.q
  nb : b ≠ pb ∧ b ≠ gp ∧ b ≠ ob ∧ b ≠ og ∧ b ≠ db ∧ b ≠ dg ∧ b ≠ rg
  no : og ≠ pb ∧ og ≠ gp ∧ og ≠ ob ∧ og ≠ db ∧ og ≠ dg ∧ og ≠ rg
  nd : dg ≠ pb ∧ dg ≠ gp ∧ dg ≠ ob ∧ dg ≠ db ∧ dg ≠ rg
  nr : rg ≠ pb ∧ rg ≠ gp ∧ rg ≠ ob ∧ rg ≠ db
def GreyAt (w : World) (b pb gp ob og db dg rg : Nat) (c : Conf) (t n : Nat) (g : GS) : Prop := ∃ f, GreyF w b pb gp ob og db dg rg c t n f g
variable {w w' : World} {b pb gp ob og db dg rg : Nat} {c : Conf} {t n f : Nat} {g : GS}
theorem GreyF.opos (h : GreyF w b pb gp ob og db dg rg c t n f g) : 0 < g.ow.length := by have := h.plan.ok.nS_pos h.plan.ti; rw [h.ok.ol]; omega
theorem GreyF.dpos (h : GreyF w b pb gp ob og db dg rg c t n f g) : 0 < g.di.length := by have := h.plan.ok.nG_pos h.plan.ti; rw [h.ok.dl]; omega
theorem GreyF.chg {P : Nat → Prop} (h : GreyF w b pb gp ob og db dg rg c t n f g) (hx : Chg P w w') (hb : ¬ P b) (hp : ¬ P pb ∧ ¬ P gp) (ho : ¬ P ob ∧ ¬ P og) (hd : ¬ P db ∧ ¬ P dg) (hr : ¬ P rg) : GreyF w' b pb gp ob og db dg rg c t n f g :=
  ⟨h.plan.chg hx hp.1 hp.2, h.ow.chg hx ho.1 fun _ => ho.2, h.di.chg hx hd.1 fun _ => hd.2, h.ok, h.n1, h.box.chg hx hb, h.ring.chg hx hr, h.nb, h.no, h.nd, h.nr⟩
theorem GreyF.ext (h : GreyF w b pb gp ob og db dg rg c t n f g) (hx : Ext w w') : GreyF w' b pb gp ob og db dg rg c t n f g :=
  h.chg (P := fun _ => False) (Chg.of_ext hx) (fun a => a) ⟨fun a => a, fun a => a⟩ ⟨fun a => a, fun a => a⟩ ⟨fun a => a, fun a => a⟩ (fun a => a)
theorem GreyAt.ext (h : GreyAt w b pb gp ob og db dg rg c t n g) (hx : Ext w w') : GreyAt w' b pb gp ob og db dg rg c t n g := by
  obtain ⟨f, h⟩ := h; exact ⟨f, h.ext hx⟩
theorem GreyF.lt (h : GreyF w b pb gp ob og db dg rg c t n f g) : b < w.heap.size ∧ pb < w.heap.size ∧ gp < w.heap.size ∧ ob < w.heap.size ∧ og < w.heap.size ∧ db < w.heap.size ∧ dg < w.heap.size ∧ rg < w.heap.size :=
  ⟨h.box.lt, h.plan.lt.1, h.plan.lt.2, h.ow.lt, h.ow.glt h.opos, h.di.lt, h.di.glt h.dpos, h.ring.lt⟩

set_option maxHeartbeats 1000000 in
theorem grey_none (h : GreyF w b pb gp ob og db dg rg c t n f g) : Calls Tryd.prog 51 #[.pointer (some ⟨b, 0, none⟩)] w fun e w' => e = .returned (.bool false) ∧ w = w' := by
  have c3 := h.box.c 3 _ rfl
  have n1 := h.n1
  have t1 : ((n : Int) == 0) = false := by simp; omega
  clear h
  go_enter Tryd.func51, Tryd.ntmps51
  go_wp2_with fail
  go_ret
  exact ⟨rfl, rfl⟩
set_option maxHeartbeats 1000000 in
theorem grey_Len {m : Nat} (h : GreyF w b pb gp ob og db dg rg c t n f g) (hm : g.q.length = m) : Calls Tryd.prog 14 #[.pointer (some ⟨b, 0, none⟩)] w fun e w' => e = .returned (.int .i64 m) ∧ w = w' := by
  have c5 : w.cell? ⟨b, 5, none⟩ = some (.int .i64 (m : Int)) := by rw [← hm]; exact h.box.c 5 _ rfl
  have H := Lib.hid h
  clear h hm
  go_enter Tryd.func14, Tryd.ntmps14
  go_wp2_with fail
  refine (grey_none H.out).mono ?_
  rintro e w1000 ⟨rfl, rfl⟩
  go_wp2_with fail
  go_ret
  exact ⟨rfl, rfl⟩
set_option maxHeartbeats 1000000 in
theorem grey_Owed {m : Nat} (h : GreyF w b pb gp ob og db dg rg c t n f g) (hm : owedG g = m) : Calls Tryd.prog 19 #[.pointer (some ⟨b, 0, none⟩)] w fun e w' => e = .returned (.int .i64 m) ∧ w = w' := by
  have c0 := h.box.c 0 _ rfl
  have H := Lib.hid h
  have CN := Lib.hid (row_Count g.ow m h.ow hm)
  clear h hm
  go_enter Tryd.func19, Tryd.ntmps19
  go_wp2_with fail
  refine (grey_none H.out).mono ?_
  rintro e w1000 ⟨rfl, rfl⟩
  go_wp2_with fail
  refine (CN.out).mono ?_
  rintro e w1000 ⟨rfl, rfl⟩
  go_wp2_with fail
  go_ret
  exact ⟨rfl, rfl⟩

end Go.Proofs.YtlhajoamebfniaaDoor

/-! arena.Has, Used, Count, Taken, Copy, New; an arena that is none. -/
namespace Go.Proofs.YtlhajoamebfniaaDoor
open Go.RowKit
variable {w w' : World} {b pb gp rb rg : Nat} {c : Conf} {t : Nat} {bs bs' : List Bool}

set_option maxHeartbeats 2000000 in
theorem arena_Has {s : Int} (r : Bool) (h : ArenaAt w b pb gp rb rg c t bs) (hr : bget bs s = r) :
    Calls Tryd.prog 28 #[.pointer (some ⟨b, 0, none⟩), .int .i64 s] w fun e w' => e = .returned (.bool r) ∧ w = w' := by
  have H := Lib.hid h
  have c1 := h.c1
  have GE := Lib.hid (row_Get bs r h.row hr)
  clear h hr
  go_enter Tryd.func28, Tryd.ntmps28
  go_wp2_with fail
  refine (arena_none H.out).mono ?_
  rintro e w1000 ⟨rfl, rfl⟩
  go_wp2_with fail
  refine (GE.out).mono ?_
  rintro e w1000 ⟨rfl, rfl⟩
  go_wp2_with fail
  go_ret
  exact ⟨rfl, rfl⟩
set_option maxHeartbeats 2000000 in
theorem arena_Used {u : Int} (h : ArenaAt w b pb gp rb rg c t bs) (hu : usedOf c t bs = u) :
    Calls Tryd.prog 24 #[.pointer (some ⟨b, 0, none⟩)] w fun e w' => e = .returned (.int .i64 u) ∧ w = w' := by
  subst hu
  have H := Lib.hid h
  have c2 := h.c2
  clear h
  go_enter Tryd.func24, Tryd.ntmps24
  go_wp2_with fail
  refine (arena_none H.out).mono ?_
  rintro e w1000 ⟨rfl, rfl⟩
  go_wp2_with fail
  go_ret
  exact ⟨rfl, rfl⟩
set_option maxHeartbeats 2000000 in
theorem arena_Count (n : Nat) (h : ArenaAt w b pb gp rb rg c t bs) (hn : bcnt bs bs.length = n) :
    Calls Tryd.prog 30 #[.pointer (some ⟨b, 0, none⟩)] w fun e w' => e = .returned (.int .i64 n) ∧ w = w' := by
  have H := Lib.hid h
  have c1 := h.c1
  have CN := Lib.hid (row_Count bs n h.row hn)
  clear h hn
  go_enter Tryd.func30, Tryd.ntmps30
  go_wp2_with fail
  refine (arena_none H.out).mono ?_
  rintro e w1000 ⟨rfl, rfl⟩
  go_wp2_with fail
  refine (CN.out).mono ?_
  rintro e w1000 ⟨rfl, rfl⟩
  go_wp2_with fail
  go_ret
  exact ⟨rfl, rfl⟩
set_option maxHeartbeats 2000000 in
theorem arena_Taken (h : ArenaAt w b pb gp rb rg c t bs) :
    Calls Tryd.prog 25 #[.pointer (some ⟨b, 0, none⟩)] w (CopyPost bs w) := by
  have H := Lib.hid h
  have c1 := h.c1
  have CN := Lib.hid (row_Copy bs h.row)
  clear h
  go_enter Tryd.func25, Tryd.ntmps25
  go_wp2_with fail
  refine (arena_none H.out).mono ?_
  rintro e w1000 ⟨rfl, rfl⟩
  go_wp2_with fail
  refine CN.out.mono ?_
  rintro e w1 ⟨b1, g1, rfl, h1, h2, h3, x1⟩
  go_wp2_with fail
  go_ret
  exact ⟨b1, g1, rfl, h1, h2, h3, x1⟩

/-- What Copy hands back: an arena of its own, of the same plan. -/
def ArenaNew (pb gp : Nat) (c : Conf) (t : Nat) (bs : List Bool) (w : World) (r : Value) (w' : World) : Prop :=
  ∃ b rb rg, r = .pointer (some ⟨b, 0, none⟩) ∧ ArenaAt w' b pb gp rb rg c t bs ∧ w.heap.size ≤ b ∧ w.heap.size ≤ rb ∧ w.heap.size ≤ rg ∧ Ext w w'
theorem ArenaNew.mk' {W : World} {u : TypeId} {x : Int} (hp : PlanAt W pb gp c t) (hr : RowAt W rb rg bs) (hl : bs.length = nS c t) (hu : usedOf c t bs = x) (h1 : w.heap.size ≤ rb) (h2 : 0 < bs.length → w.heap.size ≤ rg) (l1 : pb < w.heap.size) (l2 : gp < w.heap.size) (hx : Ext w W) :
    ArenaNew pb gp c t bs w (.pointer (some ⟨W.heap.size, 0, none⟩)) (W.alloc (.cells #[.pointer (some ⟨pb, 0, none⟩), .pointer (some ⟨rb, 0, none⟩), .int .i64 x] u)) := by
  subst hu
  have hpos : 0 < bs.length := by have := hp.ok.nS_pos hp.ti; rw [hl]; omega
  have h2' := h2 hpos
  have y := (Ext.refl W).alloc (.cells #[.pointer (some ⟨pb, 0, none⟩), .pointer (some ⟨rb, 0, none⟩), .int .i64 (usedOf c t bs)] u)
  have r1 := hr.lt; have r2 := hr.glt hpos
  have s0 := hx.size
  exact ⟨_, rb, rg, rfl, ⟨hp.ext y, hr.ext y, hl, cell_newN W _ u 0, cell_newN W _ u 1, cell_newN W _ u 2, World.frozen?_alloc_at _ _ _ _ rfl, by omega, by omega, ⟨by omega, by omega⟩, by omega, by omega⟩, s0, h1, h2', hx.alloc _⟩

set_option maxHeartbeats 2000000 in
theorem arena_Copy (h : ArenaAt w b pb gp rb rg c t bs) :
    Calls Tryd.prog 33 #[.pointer (some ⟨b, 0, none⟩)] w fun e w' => ∃ r, e = .returned r ∧ ArenaNew pb gp c t bs w r w' := by
  have H := Lib.hid h
  have c0 := h.c0; have c1 := h.c1; have c2 := h.c2
  obtain ⟨x, hx⟩ : ∃ x, usedOf c t bs = x := ⟨_, rfl⟩
  rw [hx] at c2
  have HX := Lib.hid hx
  have hd : Ext w w.drew := (Ext.refl w).drew
  have CP : Hid (∀ w', Ext w w' → Calls Tryd.prog 65 #[.pointer (some ⟨rb, 0, none⟩)] w' (CopyPost bs w')) := Lib.hid fun w' x => row_Copy bs (H.out.row.ext x)
  clear h hx
  go_enter Tryd.func33, Tryd.ntmps33
  go_wp2_with fail
  refine (arena_none H.out).mono ?_
  rintro e w1000 ⟨rfl, rfl⟩
  go_wp2_with fail
  go_region_held3 (fun w' => w'.cell? ⟨b, 0, none⟩ = some (.pointer (some ⟨pb, 0, none⟩)) ∧ w'.cell? ⟨b, 1, none⟩ = some (.pointer (some ⟨rb, 0, none⟩)) ∧ w'.cell? ⟨b, 2, none⟩ = some (.int .i64 x))
    ((first | go_keep | (go_split_ands; exact ⟨hE.cell (by assumption), hE.cell (by assumption), hE.cell (by assumption)⟩)))
    ((go_at_call 65; refine (CP.out _ ?_).mono ?_; assumption; rintro e w1 ⟨b1, g1, rfl, hr1, l1, l2, hE⟩))
  all_goals
    go_wp2_with fail
    go_ret
    have y := hd.trans hE
    exact ⟨_, rfl, ArenaNew.mk' (H.out.plan.ext y) hr1 H.out.len HX.out l1 l2 H.out.lt.2.1 H.out.lt.2.2.1 y⟩

/-! ### New -/
set_option maxHeartbeats 2000000 in
theorem arena_New (h : PlanAt w pb gp c t) :
    Calls Tryd.prog 43 #[.pointer (some ⟨pb, 0, none⟩)] w fun e w' => ∃ r, e = .returned (.tuple #[r, .int .i64 0]) ∧ ArenaNew pb gp c t (List.replicate (nS c t) false) w r w' := by
  have ho := h.ok; have ht := h.ti
  have hn := ho.nS_eq ht
  have hle := ho.nS_le ht
  have hpo := ho.nS_pos ht
  have SL := Lib.hid (fun W (h : PlanAt W pb gp c t) => slot_SlotsV (nS c t : Int) hn.symm h)
  have H := Lib.hid h
  have BN := Lib.hid (fun W : World => bits_New (w := W) (nS c t) (by omega))
  have HU := Lib.hid (show usedOf c t (List.replicate (nS c t) false) = 0 from usedTo_none _)
  clear h hn
  obtain ⟨N, hN⟩ : ∃ n, nS c t = n := ⟨_, rfl⟩
  rw [hN] at SL BN HU hle hpo ⊢
  have EN := Lib.hid hN
  clear hN
  go_enter Tryd.func43, Tryd.ntmps43
  go_wp2_with fail
  refine (SL.out _ H.out).mono ?_
  rintro e w1000 ⟨rfl, rfl⟩
  go_wp2_with fail
  refine (SL.out _ H.out).mono ?_
  rintro e w1000 ⟨rfl, rfl⟩
  go_wp2_with fail
  refine (BN.out _).mono ?_
  rintro e w1 ⟨b1, g1, rfl, h1, l1, l2, x1⟩
  go_wp2_with fail
  go_ret2
  have := H.out.lt
  have HU' := HU.out
  exact ⟨_, rfl, ArenaNew.mk' (H.out.ext x1) h1 (by rw [List.length_replicate]; exact EN.out.symm) HU' l1 (by rw [List.length_replicate]; exact l2) this.1 this.2 x1⟩

end Go.Proofs.YtlhajoamebfniaaDoor

/-! grey: owe, pay, New. -/
namespace Go.Proofs.YtlhajoamebfniaaDoor
open Go.RowKit
variable {w w' : World} {b pb gp ob og db dg rg : Nat} {c : Conf} {t n f : Nat} {g : GS} {ow di : List Bool}

theorem RowAt.near {w w' : World} {g b' g' : Nat} {bs cs : List Bool} (h : RowAt w b' g' cs) (hx : Chg (tch g bs) w w') (h1 : 0 < bs.length → g ≠ b') (h2 : 0 < bs.length → 0 < cs.length → g ≠ g') : RowAt w' b' g' cs :=
  h.chg hx (fun ⟨hp, e⟩ => h1 hp e.symm) (fun hc ⟨hp, e⟩ => h2 hp hc e.symm)
/-- The two rows. -/
structure Debts (w : World) (ob og db dg : Nat) (ow di : List Bool) : Prop where
  ow : RowAt w ob og ow
  di : RowAt w db dg di
  n : og ≠ ob ∧ og ≠ db ∧ og ≠ dg ∧ dg ≠ ob ∧ dg ≠ db
def deB (og dg k : Nat) : Prop := k = og ∨ k = dg
theorem Debts.ext (h : Debts w ob og db dg ow di) (hx : Ext w w') : Debts w' ob og db dg ow di := ⟨h.ow.ext hx, h.di.ext hx, h.n⟩
theorem GreyF.debts (h : GreyF w b pb gp ob og db dg rg c t n f g) : Debts w ob og db dg g.ow g.di :=
  ⟨h.ow, h.di, h.no.2.2.1, h.no.2.2.2.1, h.no.2.2.2.2.1, h.nd.2.2.1, h.nd.2.2.2.1⟩

set_option maxHeartbeats 2000000 in
theorem debts_owe {s p : Nat} (h : Debts w ob og db dg ow di) (hs : s < ow.length) (hp : p < di.length) :
    Calls Tryd.prog 53 #[.agg #[.pointer (some ⟨ob, 0, none⟩), .pointer (some ⟨db, 0, none⟩)], .int .i64 s, .int .i64 p] w fun e w' => e = .returned (.tuple #[]) ∧ Debts w' ob og db dg (ow.set s true) (di.set p true) ∧ Chg (deB og dg) w w' := by
  have x0 := (Ext.refl w).alloc (.cells #[.pointer (some ⟨ob, 0, none⟩), .pointer (some ⟨db, 0, none⟩)] 104)
  have H := Lib.hid (h.ext x0)
  have X0 := Lib.hid x0
  have BO := Lib.hid (bsetR_yes (is := true) hs)
  have BD := Lib.hid (bsetR_yes (is := true) hp)
  have c1 : (w.alloc (.cells #[.pointer (some ⟨ob, 0, none⟩), .pointer (some ⟨db, 0, none⟩)] 104)).cell? ⟨w.heap.size, 0, none⟩ = some (.pointer (some ⟨ob, 0, none⟩)) := cell_newN w _ _ 0
  have c2 : (w.alloc (.cells #[.pointer (some ⟨ob, 0, none⟩), .pointer (some ⟨db, 0, none⟩)] 104)).cell? ⟨w.heap.size, 1, none⟩ = some (.pointer (some ⟨db, 0, none⟩)) := cell_newN w _ _ 1
  have l1 := h.ow.glt (by omega)
  have n1 : ¬ tch og ow w.heap.size := fun q => by have := q.2; omega
  clear x0 h
  go_enter Tryd.func53, Tryd.ntmps53
  go_wp2_with fail
  refine (row_Set ow _ 0 H.out.ow BO.out).mono ?_
  rintro e w1 ⟨rfl, r1, k1⟩
  replace c2 := k1.cell n1 c2
  have R1 := Lib.hid r1; have K1 := Lib.hid k1
  clear r1 k1
  go_wp2_with fail
  refine (row_Set di _ 0 (H.out.di.near K1.out (fun _ => H.out.n.2.1) (fun _ _ => H.out.n.2.2.1)) BD.out).mono ?_
  rintro e w2 ⟨rfl, r2, k2⟩
  go_wp2_with fail
  go_end0
  refine ⟨rfl, ⟨R1.out.near k2 (fun _ => H.out.n.2.2.2.1) (fun _ _ => H.out.n.2.2.1.symm), r2, H.out.n⟩, ?_⟩
  exact (Chg.of_ext X0.out).trans ((K1.out.mono fun k q => .inl q.2).trans (k2.mono fun k q => .inr q.2))
set_option maxHeartbeats 2000000 in
theorem debts_pay {s : Nat} (r : Bool) (h : Debts w ob og db dg ow di) (hs : s < ow.length) (hr : bnth ow s = r) :
    Calls Tryd.prog 57 #[.agg #[.pointer (some ⟨ob, 0, none⟩), .pointer (some ⟨db, 0, none⟩)], .int .i64 s] w fun e w' => e = .returned (.bool r) ∧ Debts w' ob og db dg (ow.set s false) di ∧ Chg (deB og dg) w w' := by
  have x0 := (Ext.refl w).alloc (.cells #[.pointer (some ⟨ob, 0, none⟩), .pointer (some ⟨db, 0, none⟩)] 104)
  have H := Lib.hid (h.ext x0)
  have X0 := Lib.hid x0
  have BO := Lib.hid (bsetR_yes (is := false) hs)
  have BG : Hid (bget ow (s : Int) = r) := Lib.hid (by rw [bget_nat]; exact hr)
  have c1 : (w.alloc (.cells #[.pointer (some ⟨ob, 0, none⟩), .pointer (some ⟨db, 0, none⟩)] 104)).cell? ⟨w.heap.size, 0, none⟩ = some (.pointer (some ⟨ob, 0, none⟩)) := cell_newN w _ _ 0
  clear x0 h hr
  go_enter Tryd.func57, Tryd.ntmps57
  go_wp2_with fail
  refine (row_Get ow r H.out.ow BG.out).mono ?_
  rintro e w0 ⟨rfl, rfl⟩
  go_wp2_with fail
  refine (row_Set ow _ 0 H.out.ow BO.out).mono ?_
  rintro e w1 ⟨rfl, r1, k1⟩
  go_wp2_with fail
  go_ret
  exact ⟨rfl, ⟨r1, H.out.di.near k1 (fun _ => H.out.n.2.1) (fun _ _ => H.out.n.2.2.1), H.out.n⟩, (Chg.of_ext X0.out).trans (k1.mono fun k q => .inl q.2)⟩

end Go.Proofs.YtlhajoamebfniaaDoor

/-! Regions that draw their order, whose callees lay blocks of their own and turn nothing. No program is named here. -/
namespace Go.Proofs.YtlhajoamebfniaaDoor
open Go.RowKit

theorem reg_ext (w : World) (d : Nat) (os : Array Obj) : Ext w (Sort.grow (redrawn w d) os) := Ext.of (below_regrown w d os)
/-- A contract that ends in Ext, met in a world of the class. -/
theorem reg {P : Program} {f : FuncId} {args : Array Value} {w : World} {d : Nat} {os : Array Obj} {v : Value}
    (h : Calls P f args (Sort.grow (redrawn w d) os) fun e w' => e = .returned v ∧ Ext (Sort.grow (redrawn w d) os) w') : Calls P f args (Sort.grow (redrawn w d) os) fun e w'' => e = .returned v ∧ ∃ p : Regrown, w'' = Sort.grow (redrawn w p.d) p.os := Calls.regrown_of h
/-- .. that leaves the world as it was. -/
theorem regs {P : Program} {f : FuncId} {args : Array Value} {w : World} {d : Nat} {os : Array Obj} {v : Value}
    (h : Calls P f args (Sort.grow (redrawn w d) os) fun e w' => e = .returned v ∧ Sort.grow (redrawn w d) os = w') : Calls P f args (Sort.grow (redrawn w d) os) fun e w'' => e = .returned v ∧ ∃ p : Regrown, w'' = Sort.grow (redrawn w p.d) p.os :=
  reg (h.mono fun _ _ ⟨h1, h2⟩ => ⟨h1, h2 ▸ Ext.refl _⟩)
theorem grown_ex {w w' : World} {p : Regrown} (h : w' = Sort.grow (redrawn w p.d) p.os) : ∃ W, W = w' ∧ Ext w W := ⟨_, rfl, by rw [h]; exact reg_ext _ _ _⟩

end Go.Proofs.YtlhajoamebfniaaDoor

/-! grey: Put. -/
namespace Go.Proofs.YtlhajoamebfniaaDoor
open Go.RowKit
variable {w w' : World} {b pb gp ob og db dg rg : Nat} {c : Conf} {t n f : Nat} {g g' : GS}

theorem GreyF.paid {ow' di' : List Bool} (h : GreyF w b pb gp ob og db dg rg c t n f g) (hd : Debts w' ob og db dg ow' di') (hx : Chg (deB og dg) w w') (hok : GOk c t n { g with ow := ow', di := di' }) : GreyF w' b pb gp ob og db dg rg c t n f { g with ow := ow', di := di' } :=
  have n1 := h.nb; have n2 := h.no; have n3 := h.nd
  ⟨h.plan.chg hx (fun q => q.elim (fun e => n2.1 e.symm) (fun e => n3.1 e.symm)) (fun q => q.elim (fun e => n2.2.1 e.symm) (fun e => n3.2.1 e.symm)), hd.ow, hd.di, hok, h.n1,
    h.box.chg hx (fun q => q.elim (fun e => n1.2.2.2.1 e) (fun e => n1.2.2.2.2.2.1 e)), h.ring.chg hx (fun q => q.elim (fun e => n2.2.2.2.2.2 e.symm) (fun e => n3.2.2.2.2 e.symm)), h.nb, h.no, h.nd, h.nr⟩
theorem deB_grB {b og dg rg k : Nat} (h : deB og dg k) : grB b og dg rg k := h.elim (fun e => .inr (.inl e)) (fun e => .inr (.inr (.inl e)))

set_option maxHeartbeats 8000000 in
theorem grey_Put {s e : Int} (h : GreyF w b pb gp ob og db dg rg c t n f g) (hr : putG c t n g s = (g', e)) :
    Calls Tryd.prog 15 #[.pointer (some ⟨b, 0, none⟩), .int .i64 s] w fun r w' => r = .returned (.int .i64 e) ∧ GreyAt w' b pb gp ob og db dg rg c t n g' ∧ Chg (grB b og dg rg) w w' := by
  have H := Lib.hid h
  have v0 := h.box.c 0 _ rfl; have v1 := h.box.c 1 _ rfl; have v2 := h.box.c 2 _ rfl; have v3 := h.box.c 3 _ rfl; have v4 := h.box.c 4 _ rfl; have v5 := h.box.c 5 _ rfl
  have hok := putG_ok h.ok s
  rw [hr] at hok
  have HOK := Lib.hid hok
  clear hok
  unfold putG at hr
  by_cases hs : s < 0 ∨ (nS c t : Int) ≤ s
  · rw [if_pos hs] at hr
    cases hr
    have NO := Lib.hid (fun W (h : PlanAt W pb gp c t) => slot_Page_no h (s := s) (by have := h.ok.nS_eq h.ti; omega))
    clear h hs
    go_enter Tryd.func15, Tryd.ntmps15
    go_wp2_with fail
    refine (grey_none H.out).mono ?_
    rintro e w1000 ⟨rfl, rfl⟩
    go_wp2_with fail
    refine (NO.out _ H.out.plan).mono ?_
    rintro e w1 ⟨rfl, x1⟩
    go_wp2_with fail
    go_ret
    exact ⟨rfl, ⟨f, H.out.ext x1⟩, Chg.of_ext x1⟩
  · rw [if_neg hs] at hr
    obtain ⟨k, rfl⟩ := Int.eq_ofNat_of_zero_le (show 0 ≤ s by omega)
    have hk : k < nS c t := by omega
    have SF := slFacts h.plan.ok h.plan.ti hk
    have PG := Lib.hid (fun W (h : PlanAt W pb gp c t) => slot_PageV _ SF.pg h SF.at_)
    have LD : Hid (k < g.ow.length ∧ pgN c t k < g.di.length) := Lib.hid ⟨by rw [h.ok.ol]; exact hk, by rw [h.ok.dl]; exact SF.lt⟩
    clear SF
    simp only [Int.toNat_natCast] at hr
    have n1 := h.n1
    have ql := h.ok.ql
    have hf := h.ring.fn
    by_cases hq : g.q.length < n
    · rw [if_pos hq] at hr
      cases hr
      have t1 : decide ((g.q.length : Int) = (n : Int)) = false := decide_eq_false (by omega)
      clear h hs
      have rr : ((f : Int) + (g.q.length : Int)).tmod (n : Int) = (((f + g.q.length) % n : Nat) : Int) := by
        rw [← Int.natCast_add]; exact (Int.ofNat_tmod _ _).symm
      have rl : (f + g.q.length) % n < n := Nat.mod_lt _ (by omega)
      have n0 : (n : Int) ≠ 0 := by omega
      obtain ⟨m, hm⟩ : ∃ m, g.q.length = m := ⟨_, rfl⟩
      obtain ⟨r, hrr⟩ : ∃ r, (f + g.q.length) % n = r := ⟨_, rfl⟩
      have R := Lib.hid hrr
      have M := Lib.hid hm
      rw [hrr] at rr rl
      rw [hm] at v5 t1 rr hq ql
      clear hrr hm
      go_enter Tryd.func15, Tryd.ntmps15
      go_wp2_with fail
      refine (grey_none H.out).mono ?_
      rintro e w1000 ⟨rfl, rfl⟩
      go_wp2_with fail
      refine (PG.out _ H.out.plan).mono ?_
      rintro e w1 ⟨rfl, x1⟩
      replace v0 := x1.cell v0; replace v1 := x1.cell v1; replace v3 := x1.cell v3; replace v4 := x1.cell v4; replace v5 := x1.cell v5
      go_wp2_with fail
      have c0 := fun d os => cell_regrown v0 d os; have c1 := fun d os => cell_regrown v1 d os; have c3 := fun d os => cell_regrown v3 d os; have c5 := fun d os => cell_regrown v5 d os
      refine wp_region_quiet_below (by kernel_rfl) (by kernel_rfl) ?_
      repeat (any_goals (first | go_big_quiet_step (fail) | quiet_step (fail)))
      refine wpQuiet_nil ?_
      intro _ hw'
      obtain ⟨⟨dq, osq⟩, hw''⟩ := hw'
      obtain ⟨WQ, hWQ⟩ := grown_ex hw''
      have xq := hWQ.2
      obtain rfl := hWQ.1
      clear hw'' hWQ
      replace v0 := xq.cell v0; replace v1 := xq.cell v1; replace v3 := xq.cell v3; replace v4 := xq.cell v4; replace v5 := xq.cell v5
      clear c0 c1 c3 c5
      have HQ := Lib.hid (H.out.ext (x1.trans xq))
      obtain ⟨y, vr⟩ := HQ.out.ring.all r rl
      have vf := HQ.out.ring.fz r
      go_wp2_with fail
      go_region
      have nb := HQ.out.nb; have nr := HQ.out.nr; have no := HQ.out.no; have nd := HQ.out.nd
      have xs : Chg (fun k => k = rg) WQ (WQ.setCell ⟨rg, r, none⟩ (.int .i64 (k : Int))).drew := (Chg.setCell (P := fun k => k = rg) (p := ⟨rg, r, none⟩) (Chg.refl _ WQ) (.inl rfl) _).drew
      have ring3 : RingAt (WQ.setCell ⟨rg, r, none⟩ (.int .i64 (k : Int))).drew rg n f (g.q ++ [(k : Int)]) := by
        have := HQ.out.ring.push (by rw [M.out]; exact hq) (k : Int)
        rw [R.out] at this
        exact this.chg (Q := fun _ => False) (Chg.refl _ _).drew (fun a => a)
      obtain ⟨W3, hW3⟩ : ∃ W3, (WQ.setCell ⟨rg, r, none⟩ (.int .i64 (k : Int))).drew = W3 := ⟨_, rfl⟩
      rw [hW3] at xs ring3 ⊢
      have RI := Lib.hid ring3; have XS := Lib.hid xs
      have B3 := Lib.hid (HQ.out.box.chg xs nb.2.2.2.2.2.2)
      have v5' : W3.cell? ⟨b, 5, none⟩ = some (.int .i64 (m : Int)) := by rw [← M.out]; exact B3.out.c 5 _ rfl
      have f5 := B3.out.f 5
      clear v0 v1 v3 v4 v5 vr vf xs ring3 hW3
      go_wp2_with fail
      go_ret
      have B4 := B3.out.set (i := 5) (by simp [gcs]) (.int .i64 ((m : Int) + 1))
      have xb : Chg (fun k => k = b) W3 (W3.setCell ⟨b, 5, none⟩ (.int .i64 ((m : Int) + 1))) := Chg.setCell (P := fun k => k = b) (p := ⟨b, 5, none⟩) (Chg.refl _ W3) (.inl rfl) _
      have xa : Chg (fun k => k = b ∨ k = rg) WQ (W3.setCell ⟨b, 5, none⟩ (.int .i64 ((m : Int) + 1))) := (XS.out.mono fun k q => .inr q).trans (xb.mono fun k q => .inl q)
      refine ⟨rfl, ⟨f, ⟨HQ.out.plan.chg xa (fun q => q.elim (fun e => nb.1 e.symm) fun e => nr.1 e.symm) (fun q => q.elim (fun e => nb.2.1 e.symm) fun e => nr.2.1 e.symm),
        HQ.out.ow.chg xa (fun q => q.elim (fun e => nb.2.2.1 e.symm) fun e => nr.2.2.1 e.symm) (fun _ q => q.elim (fun e => nb.2.2.2.1 e.symm) fun e => no.2.2.2.2.2 e),
        HQ.out.di.chg xa (fun q => q.elim (fun e => nb.2.2.2.2.1 e.symm) fun e => nr.2.2.2 e.symm) (fun _ q => q.elim (fun e => nb.2.2.2.2.2.1 e.symm) fun e => nd.2.2.2.2 e),
        HOK.out, n1, ?_, RI.out.chg xb (fun e => nb.2.2.2.2.2.2 e.symm), nb, no, nd, nr⟩⟩, (Chg.of_ext (x1.trans xq)).trans (xa.mono fun k q => q.elim .inl fun e => .inr (.inr (.inr e)))⟩
      have e5 : (gcs ob db pb rg n f g).set 5 (.int .i64 ((m : Int) + 1)) = gcs ob db pb rg n f { g with q := g.q ++ [(k : Int)] } := by
        simp [gcs, M.out]
      rw [e5] at B4
      exact B4
    · rw [if_neg hq] at hr
      cases hr
      obtain hqn : g.q.length = n := by omega
      rw [hqn] at v5
      have OW := Lib.hid (fun W (h : Debts W ob og db dg g.ow g.di) => debts_owe h LD.out.1 LD.out.2)
      clear h hs
      go_enter Tryd.func15, Tryd.ntmps15
      go_wp2_with fail
      refine (grey_none H.out).mono ?_
      rintro e w1000 ⟨rfl, rfl⟩
      go_wp2_with fail
      refine (PG.out _ H.out.plan).mono ?_
      rintro e w1 ⟨rfl, x1⟩
      replace v0 := x1.cell v0; replace v1 := x1.cell v1; replace v3 := x1.cell v3; replace v5 := x1.cell v5
      go_wp2_with fail
      have c0 := fun d os => cell_regrown v0 d os; have c1 := fun d os => cell_regrown v1 d os; have c3 := fun d os => cell_regrown v3 d os; have c5 := fun d os => cell_regrown v5 d os
      refine wp_region_quiet_below (by kernel_rfl) (by kernel_rfl) ?_
      repeat (any_goals (first | go_big_quiet_step (fail) | quiet_step (fail)))
      refine wpQuiet_nil ?_
      intro _ hw'
      obtain ⟨⟨dq, osq⟩, hw''⟩ := hw'
      obtain ⟨WQ, hWQ⟩ := grown_ex hw''
      have xq := hWQ.2
      obtain rfl := hWQ.1
      clear hw'' hWQ
      replace v0 := xq.cell v0; replace v1 := xq.cell v1
      go_wp2_with fail
      refine (OW.out _ ((H.out.ext (x1.trans xq)).debts)).mono ?_
      rintro e w2 ⟨rfl, d2, k2⟩
      go_wp2_with fail
      go_ret
      exact ⟨rfl, ⟨f, (H.out.ext (x1.trans xq)).paid d2 k2 HOK.out⟩, (Chg.of_ext (x1.trans xq)).trans (k2.mono fun k q => deB_grB q)⟩

end Go.Proofs.YtlhajoamebfniaaDoor

/-! grey: Next. -/
namespace Go.Proofs.YtlhajoamebfniaaDoor
open Go.RowKit
variable {w w' : World} {b pb gp ob og db dg rg : Nat} {c : Conf} {t n f : Nat} {g g' : GS}

/-- Behind stores in the box, and in the ring: the rows and the plan are as they were. -/
theorem GreyF.stored {f' : Nat} {q' : List Int} {a' e' : Nat} (h : GreyF w b pb gp ob og db dg rg c t n f g) (hx : Chg (fun k => k = b ∨ k = rg) w w')
    (hok : GOk c t n ⟨q', g.ow, g.di, a', e'⟩) (hb : BoxG w' b (gcs ob db pb rg n f' ⟨q', g.ow, g.di, a', e'⟩)) (hr : RingAt w' rg n f' q') : GreyF w' b pb gp ob og db dg rg c t n f' ⟨q', g.ow, g.di, a', e'⟩ :=
  have nb := h.nb; have nr := h.nr; have no := h.no; have nd := h.nd
  ⟨h.plan.chg hx (fun q => q.elim (fun e => nb.1 e.symm) fun e => nr.1 e.symm) (fun q => q.elim (fun e => nb.2.1 e.symm) fun e => nr.2.1 e.symm),
    h.ow.chg hx (fun q => q.elim (fun e => nb.2.2.1 e.symm) fun e => nr.2.2.1 e.symm) (fun _ q => q.elim (fun e => nb.2.2.2.1 e.symm) fun e => no.2.2.2.2.2 e),
    h.di.chg hx (fun q => q.elim (fun e => nb.2.2.2.2.1 e.symm) fun e => nr.2.2.2 e.symm) (fun _ q => q.elim (fun e => nb.2.2.2.2.2.1 e.symm) fun e => nd.2.2.2.2 e),
    hok, h.n1, hb, hr, nb, no, nd, nr⟩
theorem stored_grB {b og dg rg k : Nat} (h : k = b ∨ k = rg) : grB b og dg rg k := h.elim .inl fun e => .inr (.inr (.inr e))
theorem chg_cell {w : World} {b i : Nat} (v : Value) : Chg (fun k => k = b) w (w.setCell ⟨b, i, none⟩ v) := Chg.setCell (P := fun k => k = b) (p := ⟨b, i, none⟩) (Chg.refl _ w) (.inl rfl) _

set_option maxHeartbeats 8000000 in
theorem grey_Next {x : Int} {is : Bool} (h : GreyF w b pb gp ob og db dg rg c t n f g) (hr : nextG g = (g', x, is)) :
    Calls Tryd.prog 16 #[.pointer (some ⟨b, 0, none⟩)] w fun r w' => r = .returned (.tuple #[.int .i64 x, .bool is]) ∧ GreyAt w' b pb gp ob og db dg rg c t n g' ∧ Chg (grB b og dg rg) w w' := by
  have H := Lib.hid h
  have v3 := h.box.c 3 _ rfl; have v4 := h.box.c 4 _ rfl; have v5 := h.box.c 5 _ rfl
  have hok := nextG_ok h.ok
  rw [hr] at hok
  have HOK := Lib.hid hok
  clear hok
  obtain ⟨q, ow, di, a, en⟩ := g
  cases q with
  | nil =>
    cases hr
    clear h
    have v5' : w.cell? ⟨b, 5, none⟩ = some (.int .i64 0) := v5
    clear v5
    go_enter Tryd.func16, Tryd.ntmps16
    go_wp2_with fail
    refine (grey_none H.out).mono ?_
    rintro e w1000 ⟨rfl, rfl⟩
    go_wp2_with fail
    go_ret2
    exact ⟨rfl, ⟨f, H.out⟩, Chg.refl _ _⟩
  | cons y r =>
    cases hr
    have hf := h.ring.fn
    have n1 := h.n1
    have ql := h.ok.ql
    obtain ⟨vr, RG⟩ := h.ring.pop
    have v5' : w.cell? ⟨b, 5, none⟩ = some (.int .i64 ((r.length + 1 : Nat) : Int)) := v5
    simp only [List.length_cons] at ql
    clear v5 h
    obtain ⟨m, hm⟩ : ∃ m, r.length + 1 = m := ⟨_, rfl⟩
    have M := Lib.hid hm
    rw [hm] at v5' ql
    have m0 : ((m : Int) == 0) = false := by simp; omega
    have rr : ((f : Int) + 1).tmod (n : Int) = (((f + 1) % n : Nat) : Int) := by
      rw [show ((f : Int) + 1) = ((f + 1 : Nat) : Int) from rfl]; exact (Int.ofNat_tmod _ _).symm
    have n0 : (n : Int) ≠ 0 := by omega
    have m1 : 1 ≤ m := by omega
    clear hm
    go_enter Tryd.func16, Tryd.ntmps16
    go_wp2_with fail
    refine (grey_none H.out).mono ?_
    rintro e w1000 ⟨rfl, rfl⟩
    go_wp2_with fail
    have c3 := fun d os => cell_regrown v3 d os; have c4 := fun d os => cell_regrown v4 d os; have cr := fun d os => cell_regrown vr d os
    refine wp_region_quiet_below (by kernel_rfl) (by kernel_rfl) ?_
    repeat (any_goals (first | go_big_quiet_step (fail) | quiet_step (fail)))
    refine wpQuiet_nil ?_
    intro _ hw'
    obtain ⟨⟨dq, osq⟩, hw''⟩ := hw'
    obtain ⟨WQ, hWQ⟩ := grown_ex hw''
    have xq := hWQ.2
    obtain rfl := hWQ.1
    clear hw'' hWQ
    replace v3 := xq.cell v3; replace v4 := xq.cell v4; replace v5 := xq.cell v5'
    clear c3 c4 cr vr v5'
    have HQ := Lib.hid (H.out.ext xq)
    have RQ := Lib.hid (RG.chg (Chg.of_ext (P := fun _ => False) xq) (fun a => a))
    have f4 := HQ.out.box.f 4; have f5 := HQ.out.box.f 5
    clear RG
    go_wp2_with fail
    go_region
    go_wp2_with fail
    go_ret2
    have B4 := (HQ.out.box.set (i := 4) (by simp [gcs]) (.int .i64 (((f : Int) + 1) % (n : Int)))).set (i := 5) (by simp [gcs]) (.int .i64 ((m : Int) - 1))
    have xb := ((chg_cell (w := WQ) (b := b) (i := 4) (.int .i64 (((f : Int) + 1) % (n : Int)))).trans (chg_cell (i := 5) (.int .i64 ((m : Int) - 1)))).drew
    have e1 : ((f : Int) + 1) % (n : Int) = (((f + 1) % n : Nat) : Int) := by simp
    have e2 : ((m : Int) - 1) = ((r.length : Nat) : Int) := by have := M.out; omega
    have e5 : ((gcs ob db pb rg n f ⟨x :: r, ow, di, a, en⟩).set 4 (.int .i64 (((f : Int) + 1) % (n : Int)))).set 5 (.int .i64 ((m : Int) - 1)) = gcs ob db pb rg n ((f + 1) % n) ⟨r, ow, di, a, en⟩ := by
      rw [e1, e2]; rfl
    rw [e5] at B4
    refine ⟨rfl, ⟨(f + 1) % n, HQ.out.stored (xb.mono fun k q => .inl q) HOK.out (B4.ext ((Ext.refl _).drew)) (RQ.out.chg xb fun e => HQ.out.nb.2.2.2.2.2.2 e.symm)⟩, (Chg.of_ext xq).trans (xb.mono fun k q => .inl q)⟩

end Go.Proofs.YtlhajoamebfniaaDoor

/-! grey: Clear, Empty. -/
namespace Go.Proofs.YtlhajoamebfniaaDoor
open Go.RowKit
variable {w w' : World} {b pb gp ob og db dg rg : Nat} {c : Conf} {t n f : Nat} {g g' : GS}

set_option maxHeartbeats 8000000 in
theorem grey_Clear (h : GreyF w b pb gp ob og db dg rg c t n f g) :
    Calls Tryd.prog 39 #[.pointer (some ⟨b, 0, none⟩)] w fun r w' => r = .returned (.tuple #[]) ∧ GreyAt w' b pb gp ob og db dg rg c t n (clearG c t) ∧ Chg (grB b og dg rg) w w' := by
  have H := Lib.hid h
  have v0 := h.box.c 0 _ rfl; have v1 := h.box.c 1 _ rfl
  have CO := Lib.hid (row_Clear g.ow h.ow)
  clear h
  go_enter Tryd.func39, Tryd.ntmps39
  go_wp2_with fail
  refine (grey_none H.out).mono ?_
  rintro e w1000 ⟨rfl, rfl⟩
  go_wp2_with fail
  refine CO.out.mono ?_
  rintro e w1 ⟨⟨v, rfl⟩, r1, k1⟩
  have nb := H.out.nb; have no := H.out.no; have nd := H.out.nd
  replace v1 := k1.cell (fun q => nb.2.2.2.1 q.2) v1
  have R1 := Lib.hid r1; have K1 := Lib.hid k1
  clear r1 k1 nb no nd
  go_wp2_with fail
  refine (row_Clear g.di (H.out.di.near K1.out (fun _ => H.out.no.2.2.2.1) (fun _ _ => H.out.no.2.2.2.2.1))).mono ?_
  rintro e w2 ⟨⟨v, rfl⟩, r2, k2⟩
  have hp : GOk c t n { g with ow := List.replicate g.ow.length false, di := List.replicate g.di.length false } :=
    ⟨H.out.ok.ql, H.out.ok.qs, by simpa using H.out.ok.ol, by simpa using H.out.ok.dl, H.out.ok.wk, H.out.ok.le⟩
  have KK := (K1.out.mono fun k q => .inl q.2 : Chg (deB og dg) w w1).trans (k2.mono fun k q => .inr q.2)
  have G2 := Lib.hid (H.out.paid ⟨R1.out.near k2 (fun _ => H.out.nd.2.2.1) (fun _ _ => H.out.no.2.2.2.2.1.symm), r2, H.out.debts.n⟩ KK hp)
  have KD := Lib.hid KK
  have d4 := G2.out.box.c 4 _ rfl; have d5 := G2.out.box.c 5 _ rfl; have d6 := G2.out.box.c 6 _ rfl; have d7 := G2.out.box.c 7 _ rfl
  have f4 := G2.out.box.f 4; have f5 := G2.out.box.f 5; have f6 := G2.out.box.f 6; have f7 := G2.out.box.f 7
  clear r2 k2 hp KK
  go_wp2_with fail
  go_end0
  have B := (((G2.out.box.set (i := 4) (by simp [gcs]) (.int .i64 0)).set (i := 5) (by simp [gcs]) (.int .i64 0)).set (i := 6) (by simp [gcs]) (.int .i64 0)).set (i := 7) (by simp [gcs]) (.int .i64 0)
  have xb := (((chg_cell (w := w2) (b := b) (i := 4) (.int .i64 0)).trans (chg_cell (i := 5) (.int .i64 0))).trans (chg_cell (i := 6) (.int .i64 0))).trans (chg_cell (i := 7) (.int .i64 0))
  have hc := clearG_ok (c := c) (t := t) n
  have R0 := (G2.out.ring.clear (by have := H.out.n1; omega)).chg xb fun e => G2.out.nb.2.2.2.2.2.2 e.symm
  have eo := H.out.ok.ol; have ed := H.out.ok.dl
  have HK : GOk c t n ⟨[], List.replicate g.ow.length false, List.replicate g.di.length false, 0, 0⟩ := by rw [eo, ed]; exact hc
  have fin := G2.out.stored (f' := 0) (q' := []) (a' := 0) (e' := 0) (xb.mono fun k q => .inl q) HK B R0
  simp only [eo, ed] at fin
  exact ⟨rfl, ⟨0, fin⟩, (KD.out.mono fun k q => deB_grB q).trans (xb.mono fun k q => .inl q)⟩

set_option maxHeartbeats 8000000 in
theorem grey_Empty (r : Bool) (h : GreyF w b pb gp ob og db dg rg c t n f g) (hr : emptyG g = r) :
    Calls Tryd.prog 18 #[.pointer (some ⟨b, 0, none⟩)] w fun e w' => e = .returned (.bool r) ∧ Ext w w' := by
  have H := Lib.hid h
  have v5 := h.box.c 5 _ rfl; have v6 := h.box.c 6 _ rfl; have v7 := h.box.c 7 _ rfl
  obtain ⟨m, hm⟩ : ∃ m, g.q.length = m := ⟨_, rfl⟩
  obtain ⟨o, ho⟩ : ∃ o, owedG g = o := ⟨_, rfl⟩
  unfold emptyG at hr
  have OD := Lib.hid ho
  rw [hm, ho] at hr
  rw [hm] at v5
  obtain ⟨A, hA⟩ : ∃ A, g.at_ = A := ⟨_, rfl⟩
  obtain ⟨E, hE⟩ : ∃ E, g.en = E := ⟨_, rfl⟩
  rw [hA, hE] at hr
  rw [hA] at v6
  rw [hE] at v7
  clear h hm ho hA hE
  by_cases h1 : m = 0
  · subst h1
    have e1 : (((0 : Nat) : Int) == 0) = true := rfl
    by_cases h2 : A = E
    · subst h2
      have e2 : ((A : Int) == (A : Int)) = true := by simp
      have hr' : decide (o = 0) = r := by simpa using hr
      subst hr'
      go_enter Tryd.func18, Tryd.ntmps18
      go_wp2_with fail
      have c5 := fun d os => cell_regrown v5 d os; have c6 := fun d os => cell_regrown v6 d os; have c7 := fun d os => cell_regrown v7 d os
      refine wp_region_quiet_below (by kernel_rfl) (by kernel_rfl) ?_
      repeat (any_goals (first | go_big_quiet_step ((first | (go_at_call 51; exact regs (grey_none (H.out.ext (reg_ext _ _ _)))) | (go_at_call 19; exact regs (grey_Owed (H.out.ext (reg_ext _ _ _)) OD.out)))) | quiet_step ((first | (go_at_call 51; exact regs (grey_none (H.out.ext (reg_ext _ _ _)))) | (go_at_call 19; exact regs (grey_Owed (H.out.ext (reg_ext _ _ _)) OD.out))))))
      refine wpQuiet_nil ?_
      intro _ hw'
      obtain ⟨⟨dq, osq⟩, hw''⟩ := hw'
      obtain ⟨WQ, hWQ⟩ := grown_ex hw''
      have xq := hWQ.2
      obtain rfl := hWQ.1
      clear hw'' hWQ
      go_wp2_with fail
      go_ret
      refine ⟨?_, xq⟩
      have : ((o : Int) == 0) = decide (o = 0) := by by_cases h : o = 0 <;> simp [h]
      rw [← this]
      rfl
    · have e2 : ((A : Int) == (E : Int)) = false := by simp; omega
      have hr' : false = r := by simpa [h2] using hr
      subst hr'
      clear hr
      go_enter Tryd.func18, Tryd.ntmps18
      go_wp2_with fail
      have c5 := fun d os => cell_regrown v5 d os; have c6 := fun d os => cell_regrown v6 d os; have c7 := fun d os => cell_regrown v7 d os
      refine wp_region_quiet_below (by kernel_rfl) (by kernel_rfl) ?_
      repeat (any_goals (first | go_big_quiet_step ((first | (go_at_call 51; exact regs (grey_none (H.out.ext (reg_ext _ _ _)))) | (go_at_call 19; exact regs (grey_Owed (H.out.ext (reg_ext _ _ _)) OD.out)))) | quiet_step ((first | (go_at_call 51; exact regs (grey_none (H.out.ext (reg_ext _ _ _)))) | (go_at_call 19; exact regs (grey_Owed (H.out.ext (reg_ext _ _ _)) OD.out))))))
      refine wpQuiet_nil ?_
      intro _ hw'
      obtain ⟨⟨dq, osq⟩, hw''⟩ := hw'
      obtain ⟨WQ, hWQ⟩ := grown_ex hw''
      have xq := hWQ.2
      obtain rfl := hWQ.1
      clear hw'' hWQ
      go_wp2_with fail
      go_ret
      exact ⟨rfl, xq⟩
  · have e1 : ((m : Int) == 0) = false := by simp; omega
    have hr' : false = r := by simpa [h1] using hr
    subst hr'
    clear hr
    go_enter Tryd.func18, Tryd.ntmps18
    go_wp2_with fail
    have c5 := fun d os => cell_regrown v5 d os; have c6 := fun d os => cell_regrown v6 d os; have c7 := fun d os => cell_regrown v7 d os
    refine wp_region_quiet_below (by kernel_rfl) (by kernel_rfl) ?_
    repeat (any_goals (first | go_big_quiet_step ((first | (go_at_call 51; exact regs (grey_none (H.out.ext (reg_ext _ _ _)))) | (go_at_call 19; exact regs (grey_Owed (H.out.ext (reg_ext _ _ _)) OD.out)))) | quiet_step ((first | (go_at_call 51; exact regs (grey_none (H.out.ext (reg_ext _ _ _)))) | (go_at_call 19; exact regs (grey_Owed (H.out.ext (reg_ext _ _ _)) OD.out))))))
    refine wpQuiet_nil ?_
    intro _ hw'
    obtain ⟨⟨dq, osq⟩, hw''⟩ := hw'
    obtain ⟨WQ, hWQ⟩ := grown_ex hw''
    have xq := hWQ.2
    obtain rfl := hWQ.1
    clear hw'' hWQ
    go_wp2_with fail
    go_ret
    exact ⟨rfl, xq⟩

end Go.Proofs.YtlhajoamebfniaaDoor
