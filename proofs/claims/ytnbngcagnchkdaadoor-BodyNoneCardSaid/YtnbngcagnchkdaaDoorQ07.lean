/-
  Merged texts: Head2, SlotG, QuietB, Body, Body2, Body3, Ref09P, Ref09n.
-/
import Derived.Test.YtnbngcagnchkdaaDoorQ06
import Derived.Test.YtnbngcagnchkdaaDoorQ04
import Derived.Test.YtnbngcagnchkdaaDoorQ01
import Derived.Lib.QuietBelow
import Derived.BigQuiet
import Derived.Test.YtnbngcagnchkdaaDoorQ05
import Derived.Deep.Cut
import Derived.Deep.RegionWith
import Derived.Test.YtnbngcagnchkdaaDoorQ02
import Derived.Test.YtnbngcagnchkdaaDoorQ03
import Derived.Deep.QuietTactic
import Derived.Deep.RegionHeld3
import Derived.Deep.AppendLies
set_option linter.unusedVariables false
set_option linter.unusedSimpArgs false
/-! head.Get. -/
namespace Go.Proofs.YtnbngcagnchkdaaDoor
open Go.RowKit

theorem hdis_iff {u x0 x4 : Int} {h : Hd} (e0 : u % 65536 = x0) (e4 : u / 72057594037927936 = x4) (eh : hdraw u = h) : hdis u ↔ x0 = 0 ∧ x4 = 199 ∧ hdok h := by
  unfold hdis; rw [e0, e4, eh]

set_option maxHeartbeats 4000000 in
theorem head_Get (u : Int) (h : Hd) (q : Int) {w : World} (hpq : hdget u = (h, q)) (h0 : 0 ≤ u) (h1 : u < 18446744073709551616) (hW : Wid w) :
    Calls Tryd.prog 33 #[.int .u64 u] w fun e w' => e = .returned (.tuple #[.agg #[.int .i64 h.c, .int .i64 h.r, .int .i64 h.w], .int .i64 q]) ∧ Ext w w' := by
  have UN0 := hdget_unpack h0 h1
  have U := Lib.hid h1
  obtain ⟨c, r, x, hx⟩ : ∃ c r x, hdraw u = ⟨c, r, x⟩ := ⟨_, _, _, rfl⟩
  obtain ⟨x0, e0⟩ : ∃ x0, u % 65536 = x0 := ⟨_, rfl⟩
  obtain ⟨x4, e4⟩ : ∃ x4, u / 72057594037927936 = x4 := ⟨_, rfl⟩
  have ec : u / 281474976710656 % 256 = c := congrArg Hd.c hx
  have er : u / 4294967296 % 65536 = r := congrArg Hd.r hx
  have ex : u / 65536 % 65536 = x := congrArg Hd.w hx
  have c0 : 0 ≤ c := by omega
  have c1 : c < 256 := by omega
  have r0 : 0 ≤ r := by omega
  have r1 : r < 65536 := by omega
  have y0 : 0 ≤ x := by omega
  have y1 : x < 65536 := by omega
  have hi := hdis_iff e0 e4 hx
  rw [hx, e0, e4] at UN0
  have UN := Lib.hid UN0
  have HX := Lib.hid hx
  clear UN0 hx h1 ec er ex e0 e4
  obtain ⟨g0, g1, g2, g3, g4⟩ := hW
  have gz : 0 < w.heap.size := cell_lt g0
  have cases4 : (∃ m, (x0 != 0) = false ∧ (x4 != 199) = false ∧ decide (hdok ⟨c, r, x⟩) = m ∧ (h, q) = (if m then (⟨c, r, x⟩, 0) else (hdnil, 5))) ∨ ((x0 != 0) = false ∧ (x4 != 199) = true ∧ h = hdnil ∧ q = 5) ∨ ((x0 != 0) = true ∧ h = hdnil ∧ q = 5) := by
    by_cases k0 : x0 = 0
    · by_cases k4 : x4 = 199
      · refine .inl ⟨_, by simpa using k0, by simpa using k4, rfl, ?_⟩
        by_cases k : hdok ⟨c, r, x⟩
        · rw [hdget_yes (hi.2 ⟨k0, k4, k⟩), HX.out] at hpq
          simp only [k, decide_true]; exact hpq.symm
        · rw [hdget_no (fun a => k (hi.1 a).2.2)] at hpq
          simp only [k, decide_false]; exact hpq.symm
      · rw [hdget_no (fun a => k4 (hi.1 a).2.1)] at hpq
        cases hpq
        exact .inr (.inl ⟨by simpa using k0, by simpa using k4, rfl, rfl⟩)
    · rw [hdget_no (fun a => k0 (hi.1 a).1)] at hpq
      cases hpq
      exact .inr (.inr ⟨by simpa using k0, rfl, rfl⟩)
  have C4 := Lib.hid cases4
  clear cases4 hi hpq
  go_enter Tryd.func33, Tryd.ntmps33
  go_wp2_with fail
  have hz : Ext w ((w.alloc (.cells #[.int .i64 0, .int .i64 0, .int .i64 0] 28)).alloc (.cells #[.int .i64 16, .int .i64 16, .int .i64 16, .int .i64 8, .int .i64 8] 114)) := ((Ext.refl w).alloc _).alloc _
  have hz1 : Ext (w.alloc (.cells #[.int .i64 0, .int .i64 0, .int .i64 0] 28)) ((w.alloc (.cells #[.int .i64 0, .int .i64 0, .int .i64 0] 28)).alloc (.cells #[.int .i64 16, .int .i64 16, .int .i64 16, .int .i64 8, .int .i64 8] 114)) := (Ext.refl _).alloc _
  have HA := Lib.hid (At.newb .i64 (w.alloc (.cells #[.int .i64 0, .int .i64 0, .int .i64 0] 28)) hdws 114 (w.heap.size + 1) (by simp))
  clear g0 g1 g2 g3 g4
  refine (field_Unpack hdws u _ 0 UN.out HA.out (by decide) h0 U.out).mono ?_
  rintro e w2 ⟨la, lc, rfl, hn, hE2⟩
  obtain ⟨g, rfl, hg1, hg2, hg3⟩ := hn.own (show 0 < 5 by decide)
  obtain ⟨b, o, hbo, hcell⟩ := hn.row.pos (show 0 < 5 by decide)
  cases hbo
  have l0 := hcell 0 (show 0 < 5 by decide); have l1 := hcell 1 (show 1 < 5 by decide); have l2 := hcell 2 (show 2 < 5 by decide); have l3 := hcell 3 (show 3 < 5 by decide); have l4 := hcell 4 (show 4 < 5 by decide)
  simp only [Nat.zero_add] at l0 l1 l2 l3 l4
  replace l0 : w2.cell? ⟨g, 0, none⟩ = some (.int .u64 x0) := l0
  replace l1 : w2.cell? ⟨g, 1, none⟩ = some (.int .u64 x) := l1
  replace l2 : w2.cell? ⟨g, 2, none⟩ = some (.int .u64 r) := l2
  replace l3 : w2.cell? ⟨g, 3, none⟩ = some (.int .u64 c) := l3
  replace l4 : w2.cell? ⟨g, 4, none⟩ = some (.int .u64 x4) := l4
  have H2 := Lib.hid (hz1.trans hE2)
  have p0 := H2.out.cell (cell_newN w #[.int .i64 0, .int .i64 0, .int .i64 0] 28 0)
  have p1 := H2.out.cell (cell_newN w #[.int .i64 0, .int .i64 0, .int .i64 0] 28 1)
  have p2 := H2.out.cell (cell_newN w #[.int .i64 0, .int .i64 0, .int .i64 0] 28 2)
  have q0 : w2.frozen? ⟨w.heap.size, 0, none⟩ = false := H2.out.frozenAt (v := .int .i64 0) (cell_newN w #[.int .i64 0, .int .i64 0, .int .i64 0] 28 0) (by simp)
  have q1 : w2.frozen? ⟨w.heap.size, 1, none⟩ = false := H2.out.frozenAt (v := .int .i64 0) (cell_newN w #[.int .i64 0, .int .i64 0, .int .i64 0] 28 1) (by simp)
  have q2 : w2.frozen? ⟨w.heap.size, 2, none⟩ = false := H2.out.frozenAt (v := .int .i64 0) (cell_newN w #[.int .i64 0, .int .i64 0, .int .i64 0] 28 2) (by simp)
  have hlt : w.heap.size < w2.heap.size := cell_lt p0
  have Z : Ext w w2 := ((Ext.refl w).alloc _).trans H2.out
  replace p0 : w2.cell? ⟨w.heap.size, 0, none⟩ = some (.int .i64 0) := p0
  replace p1 : w2.cell? ⟨w.heap.size, 1, none⟩ = some (.int .i64 0) := p1
  replace p2 : w2.cell? ⟨w.heap.size, 2, none⟩ = some (.int .i64 0) := p2
  have HZ := Lib.hid Z
  clear hn hcell hg3 hz hE2 hg1 HA Z hz1
  rcases C4.out with ⟨m, k0, k4, km, hm⟩ | ⟨k0, k4, rfl, rfl⟩ | ⟨k0, rfl, rfl⟩
  · have KM := Lib.hid km; clear km C4
    have HM := Lib.hid hm; clear hm
    go_wp2_with fail
    go_region
    go_wp2_with fail
    refine (head_may ⟨c, r, x⟩ m KM.out).mono ?_
    rintro e w3 ⟨rfl, h2⟩
    have X3 : Ext (w2.alloc (.cells #[.int .i64 c, .int .i64 r, .int .i64 x] 28)) w3 := (by repeat (first | exact Ext.refl _ | refine Ext.drew ?_) : Ext _ _).trans h2
    obtain ⟨b0, b1, b2⟩ := hbox X3
    have Y3 := ((Ext.refl w2).alloc (.cells #[.int .i64 c, .int .i64 r, .int .i64 x] 28)).trans X3
    have s0 := Y3.cell p0; have s1 := Y3.cell p1; have s2 := Y3.cell p2
    have t0 := Y3.frozenAt p0 q0; have t1 := Y3.frozenAt p1 q1; have t2 := Y3.frozenAt p2 q2
    have hl3 := cell_lt s0
    clear p0 p1 p2 q0 q1 q2 h2
    cases m
    · obtain ⟨rfl, rfl⟩ : h = hdnil ∧ q = 5 := by have e : (h, q) = (hdnil, 5) := HM.out; simpa using e
      go_wp2_with fail
      refine bodyPost_ret (v := .tuple #[.agg #[.int .i64 0, .int .i64 0, .int .i64 0], .int .i64 5]) (by simp [results, Tryd.results33, go_sem, s0, s1, s2, World.cell?_setCell_same, World.cell?_setCell_other]) rfl ⟨rfl, ?_⟩
      repeat (first | exact HZ.out.trans Y3 | refine Ext.setCell ?_ (Nat.le_refl _) _)
    · obtain ⟨rfl, rfl⟩ : h = ⟨c, r, x⟩ ∧ q = 0 := by have e : (h, q) = (⟨c, r, x⟩, 0) := HM.out; simpa using e
      go_wp2_with fail
      refine bodyPost_ret (v := .tuple #[.agg #[.int .i64 c, .int .i64 r, .int .i64 x], .int .i64 0]) (by simp [results, Tryd.results33, go_sem, s0, s1, s2, World.cell?_setCell_same, World.cell?_setCell_other]) rfl ⟨rfl, ?_⟩
      repeat (first | exact HZ.out.trans Y3 | refine Ext.setCell ?_ (Nat.le_refl _) _)
  all_goals
    go_wp2_with fail
    go_region
    go_wp2_with fail
    refine bodyPost_ret (v := .tuple #[.agg #[.int .i64 0, .int .i64 0, .int .i64 0], .int .i64 5]) (by simp [results, Tryd.results33, go_sem, p0, p1, p2, hlt, World.cell?_alloc_past, World.cell?_setCell_same, World.cell?_setCell_other]) rfl ⟨rfl, ?_⟩
    repeat (first | exact HZ.out | refine Ext.drew ?_ | refine Ext.alloc ?_ _ | refine Ext.setCell ?_ (Nat.le_refl _) _)

end Go.Proofs.YtnbngcagnchkdaaDoor

/-! slot: what is refused, and a plan that is none. -/
namespace Go.Proofs.YtnbngcagnchkdaaDoor
open Go.RowKit Go.Shelf
attribute [local go_sem] Oper.semAt_some

set_option maxHeartbeats 1000000 in
theorem slot_none_nil {w : World} : Calls Tryd.prog 55 #[.pointer none] w fun e w' => e = .returned (.bool true) ∧ w = w' := by
  go_enter Tryd.func55, Tryd.ntmps55
  go_wp2_with fail
  go_ret
  exact ⟨rfl, rfl⟩
set_option maxHeartbeats 1000000 in
theorem slot_none_zero {b : Nat} {w : World} (h3 : w.cell? ⟨b, 3, none⟩ = some (.int .i64 0)) : Calls Tryd.prog 55 #[.pointer (some ⟨b, 0, none⟩)] w fun e w' => e = .returned (.bool true) ∧ w = w' := by
  go_enter Tryd.func55, Tryd.ntmps55
  go_wp2_with fail
  go_ret
  exact ⟨rfl, rfl⟩
set_option maxHeartbeats 1000000 in
theorem slot_Slots_nil {w : World} : Calls Tryd.prog 29 #[.pointer none] w fun e w' => e = .returned (.int .i64 0) ∧ w = w' := by
  go_enter Tryd.func29, Tryd.ntmps29
  go_wp2_with fail
  refine (slot_none_nil).mono ?_
  rintro e w1000 ⟨rfl, rfl⟩
  go_wp2_with fail
  go_ret
  exact ⟨rfl, rfl⟩
set_option maxHeartbeats 1000000 in
theorem slot_Words_nil {w : World} : Calls Tryd.prog 30 #[.pointer none] w fun e w' => e = .returned (.int .i64 0) ∧ w = w' := by
  go_enter Tryd.func30, Tryd.ntmps30
  go_wp2_with fail
  refine (slot_none_nil).mono ?_
  rintro e w1000 ⟨rfl, rfl⟩
  go_wp2_with fail
  go_ret
  exact ⟨rfl, rfl⟩
set_option maxHeartbeats 1000000 in
theorem slot_find_nil (s : Int) {w : World} : Calls Tryd.prog 82 #[.pointer none, .int .i64 s] w fun e w' => e = .returned (.tuple #[.int .i64 0, .int .i64 0, .int .i64 1]) ∧ Ext w w' := by
  go_enter Tryd.func82, Tryd.ntmps82
  go_wp2_with fail
  refine (slot_none_nil).mono ?_
  rintro e w1000 ⟨rfl, rfl⟩
  go_wp2_with fail
  go_ret3
  exact ⟨rfl, (Ext.refl _).alloc _⟩
set_option maxHeartbeats 1000000 in
theorem slot_Addr_nil (s : Int) {w : World} : Calls Tryd.prog 57 #[.pointer none, .int .i64 s] w fun e w' => e = .returned (.tuple #[.int .i64 0, .int .i64 1]) ∧ Ext w w' := by
  go_enter Tryd.func57, Tryd.ntmps57
  go_wp2_with fail
  refine (slot_find_nil _).mono ?_
  rintro e w1 ⟨rfl, x⟩
  go_wp2_with fail
  go_ret2
  exact ⟨rfl, x⟩
set_option maxHeartbeats 1000000 in
theorem slot_Size_no {b gp : Nat} {c : Conf} {t : Nat} {s : Int} {w : World} (h : PlanAt w b gp c t) (hk : s < 0 ∨ sS c t c.cl.length ≤ s) :
    Calls Tryd.prog 58 #[.pointer (some ⟨b, 0, none⟩), .int .i64 s] w fun e w' => e = .returned (.tuple #[.int .i64 0, .int .i64 2]) ∧ Ext w w' := by
  have H := Lib.hid h; have HK := Lib.hid hk
  clear h hk
  go_enter Tryd.func58, Tryd.ntmps58
  go_wp2_with fail
  refine (slot_find_no H.out HK.out).mono ?_
  rintro e w1 ⟨rfl, x⟩
  go_wp2_with fail
  go_ret2
  exact ⟨rfl, x⟩
end Go.Proofs.YtnbngcagnchkdaaDoor

/-! Regions that draw their order, whose callees lay blocks of their own and turn nothing. No program is named here. -/
namespace Go.Proofs.YtnbngcagnchkdaaDoor
open Go.RowKit

theorem reg_ext (w : World) (d : Nat) (os : Array Obj) : Ext w (Sort.grow (redrawn w d) os) := Ext.of (below_regrown w d os)
/-- A contract that ends in Ext, met in a world of the class. -/
theorem reg {P : Program} {f : FuncId} {args : Array Value} {w : World} {d : Nat} {os : Array Obj} {v : Value}
    (h : Calls P f args (Sort.grow (redrawn w d) os) fun e w' => e = .returned v ∧ Ext (Sort.grow (redrawn w d) os) w') : Calls P f args (Sort.grow (redrawn w d) os) fun e w'' => e = .returned v ∧ ∃ p : Regrown, w'' = Sort.grow (redrawn w p.d) p.os := Calls.regrown_of h
/-- .. that leaves the world as it was. -/
theorem regs {P : Program} {f : FuncId} {args : Array Value} {w : World} {d : Nat} {os : Array Obj} {v : Value}
    (h : Calls P f args (Sort.grow (redrawn w d) os) fun e w' => e = .returned v ∧ Sort.grow (redrawn w d) os = w') : Calls P f args (Sort.grow (redrawn w d) os) fun e w'' => e = .returned v ∧ ∃ p : Regrown, w'' = Sort.grow (redrawn w p.d) p.os :=
  reg (h.mono fun _ _ ⟨h1, h2⟩ => ⟨h1, h2 ▸ Ext.refl _⟩)
theorem grown_ex {w w' : World} {p : Regrown} (h : w' = Sort.grow (redrawn w p.d) p.os) : ∃ W, W = w' ∧ Ext w W := ⟨_, rfl, by rw [h]; exact reg_ext _ _ _⟩

end Go.Proofs.YtnbngcagnchkdaaDoor

/-! body: its shape in the memory; none, place, lies, Head. -/
namespace Go.Proofs.YtnbngcagnchkdaaDoor
open Go.RowKit
variable {w w' : World} {bb mb gw gb pb gp : Nat} {c : Conf} {t : Nat} {ws ws' : List Int} {s k : Int} {h : Hd}

/-- A body of the memory mb (its words' block gw) and the plan pb. -/
structure BodyAt (w : World) (bb mb gw gb pb gp : Nat) (c : Conf) (t : Nat) (ws : List Int) : Prop where
  box : BoxG w bb [.pointer (some ⟨mb, 0, none⟩), .int .i64 t, .pointer (some ⟨pb, 0, none⟩)]
  mem : MemAt w mb gw gb c ws
  plan : PlanAt w pb gp c t
  wid : Wid w
  ok : WOk ws
  ne : bb ≠ gw ∧ pb ≠ gw ∧ gp ≠ gw ∧ 0 ≠ gw
theorem BodyAt.ext (h : BodyAt w bb mb gw gb pb gp c t ws) (hx : Ext w w') : BodyAt w' bb mb gw gb pb gp c t ws :=
  ⟨h.box.ext hx, h.mem.ext hx, h.plan.ext hx, h.wid.ext hx, h.ok, h.ne⟩
theorem BodyAt.ko (h : BodyAt w bb mb gw gb pb gp c t ws) : KOk c := h.plan.ok
theorem BodyAt.ti (h : BodyAt w bb mb gw gb pb gp c t ws) : t < c.ts.length := h.plan.ti
theorem BodyAt.lt (h : BodyAt w bb mb gw gb pb gp c t ws) : bb < w.heap.size ∧ gw < w.heap.size := ⟨h.box.lt, h.mem.lt.2.1⟩

set_option maxHeartbeats 1000000 in
theorem body_none (h : BodyAt w bb mb gw gb pb gp c t ws) : Calls Tryd.prog 56 #[.pointer (some ⟨bb, 0, none⟩)] w fun e w' => e = .returned (.bool false) ∧ w = w' := by
  have b0 := h.box.c 0 _ rfl; have b1 := h.box.c 1 _ rfl; have b2 := h.box.c 2 _ rfl
  clear h
  go_enter Tryd.func56, Tryd.ntmps56
  go_wp2_with fail
  go_ret
  exact ⟨rfl, rfl⟩

/-- A slot's address and size. -/
def bPlace (c : Conf) (t : Nat) (s : Int) : Int × Int × Int := if bIn c t s then (bAd c t s, bSz c t s, 0) else (0, 0, 2)
set_option maxHeartbeats 4000000 in
theorem body_place {a n : Int} (h : BodyAt w bb mb gw gb pb gp c t ws) (hr : bPlace c t s = (a, n, k)) :
    Calls Tryd.prog 31 #[.pointer (some ⟨bb, 0, none⟩), .int .i64 s] w fun e w' => e = .returned (.tuple #[.int .i64 a, .int .i64 n, .int .i64 k]) ∧ Ext w w' := by
  have H := Lib.hid h
  unfold bPlace at hr
  by_cases hi : bIn c t s
  · rw [if_pos hi] at hr
    have sb := slotB h.ko h.ti hi
    have SB := Lib.hid sb.at_
    have EA := Lib.hid (show bAd c t s = addrOf c t s (kOf c t s) from rfl)
    have ES := Lib.hid (show bSz c t s = nth c.cl (kOf c t s) from rfl)
    cases hr
    clear h sb hi
    go_enter Tryd.func31, Tryd.ntmps31
    go_wp2_with fail
    refine (body_none H.out).mono ?_
    rintro e w1 ⟨rfl, rfl⟩
    have b0 := H.out.box.c 0 _ rfl; have b1 := H.out.box.c 1 _ rfl; have b2 := H.out.box.c 2 _ rfl
    go_wp2_with fail
    clear b0 b1 b2
    refine (slot_AddrV (bAd c t s) EA.out.symm H.out.plan SB.out).mono ?_
    rintro e w2 ⟨rfl, x2⟩
    replace H := Lib.hid (H.out.ext x2)
    have b0 := H.out.box.c 0 _ rfl; have b1 := H.out.box.c 1 _ rfl; have b2 := H.out.box.c 2 _ rfl
    go_wp2_with fail
    clear b0 b1 b2
    refine (slot_SizeV (bSz c t s) ES.out.symm H.out.plan SB.out).mono ?_
    rintro e w3 ⟨rfl, x3⟩
    go_wp2_with fail
    go_ret3
    exact ⟨rfl, x2.trans x3⟩
  · rw [if_neg hi] at hr
    have HO := Lib.hid (bIn_out h.ko h.ti hi)
    cases hr
    clear h hi
    go_enter Tryd.func31, Tryd.ntmps31
    go_wp2_with fail
    refine (body_none H.out).mono ?_
    rintro e w1 ⟨rfl, rfl⟩
    have b0 := H.out.box.c 0 _ rfl; have b1 := H.out.box.c 1 _ rfl; have b2 := H.out.box.c 2 _ rfl
    go_wp2_with fail
    clear b0 b1 b2
    refine (slot_Addr_no H.out.plan HO.out).mono ?_
    rintro e w2 ⟨rfl, x2⟩
    go_wp2_with fail
    go_ret3
    exact ⟨rfl, x2⟩

set_option maxHeartbeats 4000000 in
theorem body_lies {S : Int} (r : Bool) (h : BodyAt w bb mb gw gb pb gp c t ws) (hd : Hd) (hi : bIn c t s) (hS : bSz c t s = S) (hr : decide (bLies c t s hd) = r) :
    Calls Tryd.prog 34 #[.pointer (some ⟨bb, 0, none⟩), .int .i64 s, .int .i64 S, .agg #[.int .i64 hd.c, .int .i64 hd.r, .int .i64 hd.w]] w fun e w' => e = .returned (.bool r) ∧ Ext w w' := by
  have sb := slotB h.ko h.ti hi
  have SB := Lib.hid sb.at_
  have hx := (Ext.refl w).alloc (.cells #[.int .i64 hd.c, .int .i64 hd.r, .int .i64 hd.w] 28)
  have h1 := Ext.refl (w.alloc (.cells #[.int .i64 hd.c, .int .i64 hd.r, .int .i64 hd.w] 28))
  have H := Lib.hid (h.ext hx)
  obtain ⟨K, hK⟩ : ∃ K, kOf c t s = K := ⟨_, rfl⟩
  have s2 := sb.s2; have s64 := sb.s64
  rw [hS] at s2 s64
  rw [hK] at SB
  have HR : Hid ((hdok hd ∧ hd.c = (K : Int) ∧ hd.r + hd.w + 1 ≤ S) ↔ r = true) := Lib.hid (by rw [← hr, decide_eq_true_iff]; unfold bLies; rw [hK, hS])
  have k0 : (0 : Int) ≤ (K : Int) := Int.natCast_nonneg _
  clear h sb hi hS hK hr
  by_cases hk : hdok hd
  · have HN := Lib.hid (show hdneed hd = (hd.r + hd.w + 1, 0) by unfold hdneed; rw [if_pos hk])
    have HK := Lib.hid hk
    obtain ⟨⟨k1, k2⟩, k3, k4, k5, k6⟩ := hk
    go_enter Tryd.func34, Tryd.ntmps34
    go_wp2_with fail
    refine (head_Need hd _ _ HN.out).mono ?_
    rintro e w1 ⟨rfl, h2⟩
    replace h1 := h1.trans h2
    replace H := Lib.hid (H.out.ext h2)
    clear h2
    have b0 := H.out.box.c 0 _ rfl; have b1 := H.out.box.c 1 _ rfl; have b2 := H.out.box.c 2 _ rfl
    go_wp2_with fail
    clear b0 b1 b2
    refine (slot_Class H.out.plan SB.out).mono ?_
    rintro e w2 ⟨rfl, h2⟩
    replace h1 := h1.trans h2
    clear h2
    obtain ⟨b0, b1, b2⟩ := hbox h1
    by_cases hc : hd.c = (K : Int)
    · by_cases hn : hd.r + hd.w + 1 ≤ S
      · obtain rfl : r = true := HR.out.1 ⟨HK.out, hc, hn⟩
        go_wp2_with fail
        go_ret
        exact ⟨rfl, hx.trans h1⟩
      · obtain rfl : r = false := by
          cases r
          · rfl
          · exact absurd (HR.out.2 rfl).2.2 hn
        go_wp2_with fail
        go_ret
        exact ⟨ret_bool (decide_eq_false (by omega)), hx.trans h1⟩
    · obtain rfl : r = false := by
        cases r
        · rfl
        · exact absurd (HR.out.2 rfl).2.1 hc
      go_wp2_with fail
      go_ret
      exact ⟨rfl, hx.trans h1⟩
  · have HN := Lib.hid (show hdneed hd = (0, 2) by unfold hdneed; rw [if_neg hk])
    obtain rfl : r = false := by
      cases r
      · rfl
      · exact absurd (HR.out.2 rfl).1 hk
    clear hk
    go_enter Tryd.func34, Tryd.ntmps34
    go_wp2_with fail
    refine (head_Need hd _ _ HN.out).mono ?_
    rintro e w1 ⟨rfl, h2⟩
    replace h1 := h1.trans h2
    replace H := Lib.hid (H.out.ext h2)
    clear h2
    have b0 := H.out.box.c 0 _ rfl; have b1 := H.out.box.c 1 _ rfl; have b2 := H.out.box.c 2 _ rfl
    go_wp2_with fail
    clear b0 b1 b2
    refine (slot_Class H.out.plan SB.out).mono ?_
    rintro e w2 ⟨rfl, h2⟩
    replace h1 := h1.trans h2
    clear h2
    go_wp2_with fail
    go_ret
    exact ⟨rfl, hx.trans h1⟩

theorem BoxG.set3 {z : Nat} {u0 u1 u2 : Value} (h : BoxG w z [u0, u1, u2]) (v0 v1 v2 : Value) :
    BoxG (((w.setCell ⟨z, 0, none⟩ v0).setCell ⟨z, 1, none⟩ v1).setCell ⟨z, 2, none⟩ v2) z [v0, v1, v2] :=
  ((h.set (i := 0) (by simp) v0).set (i := 1) (by simp) v1).set (i := 2) (by simp) v2
theorem BoxG.then3 {z : Nat} {u0 u1 u2 v0 v1 v2 : Value} {Q : World → Prop} (h : BoxG w z [u0, u1, u2]) (hk : ∀ W', BoxG W' z [v0, v1, v2] → Chg (fun k => k = z) w W' → Q W') :
    Q (((w.setCell ⟨z, 0, none⟩ v0).setCell ⟨z, 1, none⟩ v1).setCell ⟨z, 2, none⟩ v2) :=
  hk _ (h.set3 v0 v1 v2) ((((Chg.refl (fun k => k = z) w).setCell (p := ⟨z, 0, none⟩) (.inl rfl) v0).setCell (p := ⟨z, 1, none⟩) (.inl rfl) v1).setCell (p := ⟨z, 2, none⟩) (.inl rfl) v2)

set_option maxHeartbeats 4000000 in
theorem body_Head {hd : Hd} (h : BodyAt w bb mb gw gb pb gp c t ws) (hr : bHead c t ws s = (hd, k)) :
    Calls Tryd.prog 8 #[.pointer (some ⟨bb, 0, none⟩), .int .i64 s] w fun e w' => e = .returned (.tuple #[.agg #[.int .i64 hd.c, .int .i64 hd.r, .int .i64 hd.w], .int .i64 k]) ∧ Ext w w' := by
  have H := Lib.hid h
  unfold bHead at hr
  by_cases hi : bIn c t s
  · rw [if_pos hi] at hr
    have sb := slotB h.ko h.ti hi
    have HP := Lib.hid (show bPlace c t s = (bAd c t s, bSz c t s, 0) by unfold bPlace; rw [if_pos hi])
    have HI := Lib.hid hi
    have L := Lib.hid (sb.load (ws := ws) h.ti (i := 0) (by have := sb.s2; omega))
    have A64 := Lib.hid (sb.is64 h.ko h.ti)
    obtain ⟨u, hu⟩ : ∃ u, bwd c t ws s 0 = u := ⟨_, rfl⟩
    have UB := Lib.hid (show 0 ≤ u ∧ u < 18446744073709551616 by rw [← hu]; exact h.ok _)
    rw [hu] at hr L
    obtain ⟨A, hA⟩ : ∃ A, bAd c t s = A := ⟨_, rfl⟩
    obtain ⟨S, hS⟩ : ∃ S, bSz c t s = S := ⟨_, rfl⟩
    rw [hA] at HP L A64
    rw [hS] at HP
    have HS := Lib.hid hS
    have L' := Lib.hid (show loadR c ws t A = (u, 0) by have := L.out; simpa using this)
    clear L hA hS hu
    have HR := Lib.hid hr
    obtain ⟨z, hz⟩ : ∃ z, w.heap.size = z := ⟨_, rfl⟩
    obtain ⟨W0, hW0⟩ : ∃ W, w.alloc (.cells #[.int .i64 0, .int .i64 0, .int .i64 0] 28) = W := ⟨_, rfl⟩
    have R := Lib.hid (show BoxG W0 z [.int .i64 0, .int .i64 0, .int .i64 0] by rw [← hW0]; exact BoxG.new w _ _ hz)
    have X := Lib.hid (show Ext w W0 by rw [← hW0]; exact (Ext.refl w).alloc _)
    have ZL := Lib.hid (show w.heap.size ≤ z by omega)
    replace H := Lib.hid (H.out.ext X.out)
    clear h sb hi hr
    go_enter Tryd.func8, Tryd.ntmps8
    go_wp2_with fail
    clear hW0 hz
    refine (body_place H.out HP.out).mono ?_
    rintro e w1 ⟨rfl, x1⟩
    replace H := Lib.hid (H.out.ext x1); replace R := Lib.hid (R.out.ext x1); replace X := Lib.hid (X.out.trans x1)
    clear x1
    go_upto_region 4 with fail
    have b0 := H.out.box.c 0 _ rfl; have b1 := H.out.box.c 1 _ rfl; have b2 := H.out.box.c 2 _ rfl
    have d0 := fun d os => cell_regrown b0 d os; have d1 := fun d os => cell_regrown b1 d os
    clear b0 b1 b2
    refine wp_region_quiet_below (by kernel_rfl) (by kernel_rfl) ?_
    repeat (any_goals (first | go_big_quiet_step ((go_at_call 32; exact reg (mem_Load u 0 (H.out.mem.ext (reg_ext _ _ _)) ⟨A64.out.1, by have := A64.out.2; omega⟩ L'.out))) | quiet_step ((go_at_call 32; exact reg (mem_Load u 0 (H.out.mem.ext (reg_ext _ _ _)) ⟨A64.out.1, by have := A64.out.2; omega⟩ L'.out)))))
    refine wpQuiet_nil ?_
    intro _ hw'
    obtain ⟨⟨dq, osq⟩, hw''⟩ := hw'
    obtain ⟨WQ, hWQ⟩ := grown_ex hw''
    have xq := hWQ.2
    obtain rfl := hWQ.1
    clear hw'' hWQ
    clear d0 d1
    replace H := Lib.hid (H.out.ext xq); replace R := Lib.hid (R.out.ext xq); replace X := Lib.hid (X.out.trans xq)
    clear xq
    obtain ⟨g, q, hg⟩ : ∃ g q, hdget u = (g, q) := ⟨_, _, rfl⟩
    have HG := Lib.hid hg
    clear hg
    go_wp2_with fail
    refine (head_Get u g q HG.out UB.out.1 UB.out.2 H.out.wid).mono ?_
    rintro e w3 ⟨rfl, x3⟩
    replace H := Lib.hid (H.out.ext x3); replace R := Lib.hid (R.out.ext x3); replace X := Lib.hid (X.out.trans x3)
    clear x3
    go_upto_region 6 with fail
    obtain ⟨y, hy⟩ : ∃ y, w3.heap.size = y := ⟨_, rfl⟩
    obtain ⟨W5, hW5⟩ : ∃ W, w3.alloc (.cells #[.int .i64 g.c, .int .i64 g.r, .int .i64 g.w] 28) = W := ⟨_, rfl⟩
    have Y := Lib.hid (show BoxG W5 y [.int .i64 g.c, .int .i64 g.r, .int .i64 g.w] by rw [← hW5]; exact BoxG.new w3 _ _ hy)
    have x5 : Ext w3 W5 := by rw [← hW5]; exact (Ext.refl _).alloc _
    rw [hW5, hy]
    replace H := Lib.hid (H.out.ext x5); replace R := Lib.hid (R.out.ext x5); replace X := Lib.hid (X.out.trans x5)
    clear x5 hW5 hy
    have y0 := Y.out.c 0 _ rfl; have y1 := Y.out.c 1 _ rfl; have y2 := Y.out.c 2 _ rfl
    have yl := Y.out.lt
    by_cases hu : hdis u
    · obtain ⟨e1, e2⟩ : hdraw u = g ∧ 0 = q := by
        have := HG.out
        rw [hdget_yes hu] at this
        injection this with e1 e2
        exact ⟨e1, e2⟩
      subst e2
      have hr := HR.out
      rw [e1] at hr
      clear e1
      by_cases hl : bLies c t s g
      · rw [if_pos ⟨hu, hl⟩] at hr
        obtain ⟨rfl, rfl⟩ : g = hd ∧ 0 = k := by injection hr with e1 e2; exact ⟨e1, e2⟩
        have HL := Lib.hid (decide_eq_true hl)
        clear hu hl hr
        go_wp2_with fail
        refine (body_lies true H.out g HI.out HS.out HL.out).mono ?_
        rintro e w4 ⟨rfl, x4⟩
        replace H := Lib.hid (H.out.ext x4); replace R := Lib.hid (R.out.ext x4); replace X := Lib.hid (X.out.trans x4); replace Y := Lib.hid (Y.out.ext x4)
        clear x4 y0 y1 y2 yl
        have y0 := Y.out.c 0 _ rfl; have y1 := Y.out.c 1 _ rfl; have y2 := Y.out.c 2 _ rfl
        have yl := Y.out.lt
        have f0 := R.out.f 0; have f1 := R.out.f 1; have f2 := R.out.f 2
        have r0 := R.out.c 0 _ rfl; have r1 := R.out.c 1 _ rfl; have r2 := R.out.c 2 _ rfl
        have rl := R.out.lt
        go_wp2_with fail
        have RB := R.out.set3 (.int .i64 g.c) (.int .i64 g.r) (.int .i64 g.w)
        have q0 := RB.c 0 _ rfl; have q1 := RB.c 1 _ rfl; have q2 := RB.c 2 _ rfl
        refine bodyPost_ret (v := .tuple #[.agg #[.int .i64 g.c, .int .i64 g.r, .int .i64 g.w], .int .i64 0]) (by simp [results, Tryd.results8, go_sem, q0, q1, q2]) rfl ⟨rfl, ((X.out.setCell (p := ⟨z, 0, none⟩) ZL.out _).setCell (p := ⟨z, 1, none⟩) ZL.out _).setCell (p := ⟨z, 2, none⟩) ZL.out _⟩
      · rw [if_neg (fun q => hl q.2)] at hr
        obtain ⟨rfl, rfl⟩ : hdnil = hd ∧ 5 = k := by injection hr with e1 e2; exact ⟨e1, e2⟩
        have HL := Lib.hid (decide_eq_false hl)
        clear hu hl hr
        go_wp2_with fail
        refine (body_lies false H.out g HI.out HS.out HL.out).mono ?_
        rintro e w4 ⟨rfl, x4⟩
        replace H := Lib.hid (H.out.ext x4); replace R := Lib.hid (R.out.ext x4); replace X := Lib.hid (X.out.trans x4); replace Y := Lib.hid (Y.out.ext x4)
        clear x4 y0 y1 y2 yl
        have y0 := Y.out.c 0 _ rfl; have y1 := Y.out.c 1 _ rfl; have y2 := Y.out.c 2 _ rfl
        have yl := Y.out.lt
        have f0 := R.out.f 0; have f1 := R.out.f 1; have f2 := R.out.f 2
        have r0 := R.out.c 0 _ rfl; have r1 := R.out.c 1 _ rfl; have r2 := R.out.c 2 _ rfl
        have rl := R.out.lt
        go_wp2_with fail
        have RB := R.out.set3 (.int .i64 0) (.int .i64 0) (.int .i64 0)
        have q0 := RB.c 0 _ rfl; have q1 := RB.c 1 _ rfl; have q2 := RB.c 2 _ rfl
        refine bodyPost_ret (v := .tuple #[.agg #[.int .i64 0, .int .i64 0, .int .i64 0], .int .i64 5]) (by simp [results, Tryd.results8, go_sem, q0, q1, q2]) rfl ⟨rfl, ((X.out.setCell (p := ⟨z, 0, none⟩) ZL.out _).setCell (p := ⟨z, 1, none⟩) ZL.out _).setCell (p := ⟨z, 2, none⟩) ZL.out _⟩
    · obtain ⟨e1, e2⟩ : hdnil = g ∧ 5 = q := by
        have := HG.out
        rw [hdget_no hu] at this
        injection this with e1 e2
        exact ⟨e1, e2⟩
      subst e2
      have hr := HR.out
      rw [if_neg (fun q => hu q.1)] at hr
      obtain ⟨rfl, rfl⟩ : hdnil = hd ∧ 5 = k := by injection hr with e1 e2; exact ⟨e1, e2⟩
      clear hu e1 hr
      have f0 := R.out.f 0; have f1 := R.out.f 1; have f2 := R.out.f 2
      have r0 := R.out.c 0 _ rfl; have r1 := R.out.c 1 _ rfl; have r2 := R.out.c 2 _ rfl
      have rl := R.out.lt
      go_wp2_with fail
      have RB := R.out.set3 (.int .i64 0) (.int .i64 0) (.int .i64 0)
      have q0 := RB.c 0 _ rfl; have q1 := RB.c 1 _ rfl; have q2 := RB.c 2 _ rfl
      refine bodyPost_ret (v := .tuple #[.agg #[.int .i64 0, .int .i64 0, .int .i64 0], .int .i64 5]) (by simp [results, Tryd.results8, go_sem, q0, q1, q2]) rfl ⟨rfl, ((X.out.setCell (p := ⟨z, 0, none⟩) ZL.out _).setCell (p := ⟨z, 1, none⟩) ZL.out _).setCell (p := ⟨z, 2, none⟩) ZL.out _⟩
  · rw [if_neg hi] at hr
    have HP := Lib.hid (show bPlace c t s = (0, 0, 2) by unfold bPlace; rw [if_neg hi])
    obtain ⟨rfl, rfl⟩ : hdnil = hd ∧ 2 = k := by injection hr with e1 e2; exact ⟨e1, e2⟩
    obtain ⟨z, hz⟩ : ∃ z, w.heap.size = z := ⟨_, rfl⟩
    obtain ⟨W0, hW0⟩ : ∃ W, w.alloc (.cells #[.int .i64 0, .int .i64 0, .int .i64 0] 28) = W := ⟨_, rfl⟩
    have R := Lib.hid (show BoxG W0 z [.int .i64 0, .int .i64 0, .int .i64 0] by rw [← hW0]; exact BoxG.new w _ _ hz)
    have X := Lib.hid (show Ext w W0 by rw [← hW0]; exact (Ext.refl w).alloc _)
    have ZL := Lib.hid (show w.heap.size ≤ z by omega)
    replace H := Lib.hid (H.out.ext X.out)
    clear h hi hr
    go_enter Tryd.func8, Tryd.ntmps8
    go_wp2_with fail
    clear hW0 hz
    refine (body_place H.out HP.out).mono ?_
    rintro e w1 ⟨rfl, x1⟩
    replace H := Lib.hid (H.out.ext x1); replace R := Lib.hid (R.out.ext x1); replace X := Lib.hid (X.out.trans x1)
    clear x1
    have f0 := R.out.f 0; have f1 := R.out.f 1; have f2 := R.out.f 2
    have r0 := R.out.c 0 _ rfl; have r1 := R.out.c 1 _ rfl; have r2 := R.out.c 2 _ rfl
    have rl := R.out.lt
    go_wp2_with fail
    have RB := R.out.set3 (.int .i64 0) (.int .i64 0) (.int .i64 0)
    have q0 := RB.c 0 _ rfl; have q1 := RB.c 1 _ rfl; have q2 := RB.c 2 _ rfl
    refine bodyPost_ret (v := .tuple #[.agg #[.int .i64 0, .int .i64 0, .int .i64 0], .int .i64 2]) (by simp [results, Tryd.results8, go_sem, q0, q1, q2]) rfl ⟨rfl, ((X.out.setCell (p := ⟨z, 0, none⟩) ZL.out _).setCell (p := ⟨z, 1, none⟩) ZL.out _).setCell (p := ⟨z, 2, none⟩) ZL.out _⟩

end Go.Proofs.YtnbngcagnchkdaaDoor

/-! body: Wipe, Make. -/
namespace Go.Proofs.YtnbngcagnchkdaaDoor
open Go.RowKit
variable {w w' : World} {bb mb gw gb pb gp : Nat} {c : Conf} {t : Nat} {ws ws' : List Int} {s k : Int} {h : Hd}

theorem BodyAt.turn (h : BodyAt w bb mb gw gb pb gp c t ws) (hc : Chg (isB gw) w w') (hm : MemAt w' mb gw gb c ws') (ho : WOk ws') : BodyAt w' bb mb gw gb pb gp c t ws' := by
  have ne := h.ne
  refine ⟨h.box.chg hc ne.1, hm, h.plan.chg hc ne.2.1 ne.2.2.1, ?_, ho, ne⟩
  obtain ⟨h0, h1, h2, h3, h4⟩ := h.wid
  have n : ¬ isB gw 0 := ne.2.2.2
  exact ⟨hc.cell n h0, hc.cell n h1, hc.cell n h2, hc.cell n h3, hc.cell n h4⟩

theorem bmem_Zero {W : World} {a n : Int} (h : BodyAt w bb mb gw gb pb gp c t ws) (hx : Ext w W) (ha : is64 a) (hn : is64 n) (hr : zeroR c ws t a n = (ws', k)) (ho : WOk ws') :
    Calls Tryd.prog 39 #[.pointer (some ⟨mb, 0, none⟩), .int .i64 t, .int .i64 a, .int .i64 n] W fun e w' => e = .returned (.int .i64 k) ∧ BodyAt w' bb mb gw gb pb gp c t ws' ∧ Chg (isB gw) w w' :=
  (mem_Zero (h.mem.ext hx) ha hn hr).mono fun _ _ ⟨e, hc, hm⟩ => ⟨e, (h.ext hx).turn hc hm ho, (Chg.of_ext hx).trans hc⟩
theorem bmem_Store {W : World} {a x : Int} (h : BodyAt w bb mb gw gb pb gp c t ws) (hx : Ext w W) (ha : is64 a) (hr : storeR c ws t a x = (ws', k)) (ho : WOk ws') :
    Calls Tryd.prog 40 #[.pointer (some ⟨mb, 0, none⟩), .int .i64 t, .int .i64 a, .int .u64 x] W fun e w' => e = .returned (.int .i64 k) ∧ BodyAt w' bb mb gw gb pb gp c t ws' ∧ Chg (isB gw) w w' :=
  (mem_Store (h.mem.ext hx) ha hr).mono fun _ _ ⟨e, hc, hm⟩ => ⟨e, (h.ext hx).turn hc hm ho, (Chg.of_ext hx).trans hc⟩

set_option maxHeartbeats 4000000 in
theorem body_Wipe (h : BodyAt w bb mb gw gb pb gp c t ws) (hr : bWipe c t ws s = (ws', k)) :
    Calls Tryd.prog 15 #[.pointer (some ⟨bb, 0, none⟩), .int .i64 s] w fun e w' => e = .returned (.int .i64 k) ∧ BodyAt w' bb mb gw gb pb gp c t ws' ∧ Chg (isB gw) w w' := by
  have H := Lib.hid h
  have OK := Lib.hid (show WOk ws' by have := bWipe_ok (s := s) h.ok h.mem.len h.ko h.ti; rw [hr] at this; exact this)
  unfold bWipe at hr
  by_cases hi : bIn c t s
  · rw [if_pos hi] at hr
    have sb := slotB h.ko h.ti hi
    have HP := Lib.hid (show bPlace c t s = (bAd c t s, bSz c t s, 0) by unfold bPlace; rw [if_pos hi])
    have Z := Lib.hid (sb.zero (ws := ws) h.ti)
    rw [hr] at Z
    have A64 := Lib.hid (sb.is64 h.ko h.ti)
    have s2 := sb.s2; have s64 := sb.s64
    obtain rfl : 0 = k := by injection hr
    obtain ⟨A, hA⟩ : ∃ A, bAd c t s = A := ⟨_, rfl⟩
    obtain ⟨S, hS⟩ : ∃ S, bSz c t s = S := ⟨_, rfl⟩
    rw [hA, hS] at HP Z
    rw [hA] at A64
    rw [hS] at s2 s64
    clear hA hS hr h sb hi
    go_enter Tryd.func15, Tryd.ntmps15
    go_wp2_with fail
    refine (body_place H.out HP.out).mono ?_
    rintro e w1 ⟨rfl, x1⟩
    replace H := Lib.hid (H.out.ext x1)
    go_upto_region 4 with fail
    have b0 := H.out.box.c 0 _ rfl; have b1 := H.out.box.c 1 _ rfl; have b2 := H.out.box.c 2 _ rfl
    go_region_with ((go_at_call 39; refine (bmem_Zero H.out ?_ ⟨A64.out.1, by have := A64.out.2; omega⟩ ⟨by omega, by omega⟩ Z.out OK.out).mono ?_; (repeat (first | with_reducible exact Ext.refl _ | with_reducible refine Ext.drew ?_ | with_reducible refine Ext.drewN ?_ _ | with_reducible refine Ext.alloc ?_ _)); rintro e w2 ⟨rfl, hb, hc⟩))
    all_goals
      have HB := Lib.hid hb; have HC := Lib.hid hc
      clear hb hc b0 b1 b2
      go_wp2_with fail
      go_ret
      exact ⟨rfl, HB.out, (Chg.of_ext x1).trans HC.out⟩
  · rw [if_neg hi] at hr
    have HP := Lib.hid (show bPlace c t s = (0, 0, 2) by unfold bPlace; rw [if_neg hi])
    cases hr
    clear h hi
    go_enter Tryd.func15, Tryd.ntmps15
    go_wp2_with fail
    refine (body_place H.out HP.out).mono ?_
    rintro e w1 ⟨rfl, x1⟩
    go_wp2_with fail
    go_ret
    exact ⟨rfl, H.out.ext x1, Chg.of_ext x1⟩

theorem bMake_ok {h : Hd} (ho : WOk ws) (hl : ws.length = totalN c) (ko : KOk c) (ht : t < c.ts.length) : WOk (bMake c t ws s h).1 := by
  unfold bMake
  split
  · rename_i h1
    split
    · exact ho
    · have q := bWipe_ok (s := s) ho hl ko ht
      unfold bWipe at q
      rw [if_pos h1.1] at q
      exact q.set _ (hdword_64 h1.2.1)
  · exact ho
theorem bMake_len {h : Hd} (hl : ws.length = totalN c) (ko : KOk c) (ht : t < c.ts.length) : (bMake c t ws s h).1.length = totalN c := by
  unfold bMake
  split
  · rename_i h1
    split
    · exact hl
    · have q := bWipe_len (s := s) hl ko ht
      unfold bWipe at q
      rw [if_pos h1.1] at q
      rw [List.length_set]; exact q
  · exact hl

set_option maxHeartbeats 4000000 in
theorem body_Make (hd : Hd) (h : BodyAt w bb mb gw gb pb gp c t ws) (hr : bMake c t ws s hd = (ws', k)) :
    Calls Tryd.prog 12 #[.pointer (some ⟨bb, 0, none⟩), .int .i64 s, .agg #[.int .i64 hd.c, .int .i64 hd.r, .int .i64 hd.w]] w fun e w' => e = .returned (.int .i64 k) ∧ BodyAt w' bb mb gw gb pb gp c t ws' ∧ Chg (isB gw) w w' := by
  have H := Lib.hid h
  have OK := Lib.hid (show WOk ws' by have := bMake_ok (s := s) (h := hd) h.ok h.mem.len h.ko h.ti; rw [hr] at this; exact this)
  unfold bMake at hr
  by_cases hi : bIn c t s
  · have sb := slotB h.ko h.ti hi
    have HP := Lib.hid (show bPlace c t s = (bAd c t s, bSz c t s, 0) by unfold bPlace; rw [if_pos hi])
    have HI := Lib.hid hi
    have HB := Lib.hid sb
    have A64 := Lib.hid (sb.is64 h.ko h.ti)
    have s2 := sb.s2; have s64 := sb.s64
    have W0' := Lib.hid (bWipe_ok (s := s) h.ok h.mem.len h.ko h.ti)
    have WL := Lib.hid (bWipe_len (s := s) h.mem.len h.ko h.ti)
    have E0 := Lib.hid (show (bWipe c t ws s).1 = zeroL ws (bAt c t s 0) (bSz c t s).toNat by unfold bWipe; rw [if_pos hi])
    have Z := Lib.hid (sb.zero (ws := ws) h.ti)
    have ST := Lib.hid (sb.store (ws := zeroL ws (bAt c t s 0) (bSz c t s).toNat) h.ti (i := 0) (by omega) (hdword hd))
    have HT := Lib.hid h.ti
    obtain ⟨ws1, hw1⟩ : ∃ ws1, zeroL ws (bAt c t s 0) (bSz c t s).toNat = ws1 := ⟨_, rfl⟩
    rw [hw1] at hr Z ST E0
    obtain ⟨A, hA⟩ : ∃ A, bAd c t s = A := ⟨_, rfl⟩
    obtain ⟨S, hS⟩ : ∃ S, bSz c t s = S := ⟨_, rfl⟩
    rw [hA, hS] at HP Z
    rw [hA] at A64 ST
    have ST' := Lib.hid (show storeR c ws1 t A (hdword hd) = (ws1.set (bAt c t s 0) (hdword hd), 0) by have := ST.out; simpa using this)
    have HS := Lib.hid hS
    rw [hS] at s2 s64
    clear hA hS sb ST hw1
    by_cases hl : bLies c t s hd
    · rw [if_pos ⟨hi, hl⟩] at hr
      have HL := Lib.hid (decide_eq_true hl)
      have HK := Lib.hid hl.1
      obtain ⟨g, q, hg⟩ : ∃ g q, bHead c t ws s = (g, q) := ⟨_, _, rfl⟩
      rw [hg] at hr
      have HG := Lib.hid hg
      clear h hi hl hg
      by_cases hq : q = 0
      · subst hq
        rw [if_pos rfl] at hr
        cases hr
        obtain ⟨y, hy⟩ : ∃ y, w.heap.size = y := ⟨_, rfl⟩
        obtain ⟨W0, hW0⟩ : ∃ W, w.alloc (.cells #[.int .i64 hd.c, .int .i64 hd.r, .int .i64 hd.w] 28) = W := ⟨_, rfl⟩
        have Y := Lib.hid (show BoxG W0 y [.int .i64 hd.c, .int .i64 hd.r, .int .i64 hd.w] by rw [← hW0]; exact BoxG.new w _ _ hy)
        have X := Lib.hid (show Ext w W0 by rw [← hW0]; exact (Ext.refl w).alloc _)
        replace H := Lib.hid (H.out.ext X.out)
        go_enter Tryd.func12, Tryd.ntmps12
        go_wp2_with fail
        clear hW0 hy
        refine (body_place H.out HP.out).mono ?_
        rintro e w1 ⟨rfl, x1⟩
        replace H := Lib.hid (H.out.ext x1); replace Y := Lib.hid (Y.out.ext x1); replace X := Lib.hid (X.out.trans x1)
        clear x1
        have y0 := Y.out.c 0 _ rfl; have y1 := Y.out.c 1 _ rfl; have y2 := Y.out.c 2 _ rfl
        have yl := Y.out.lt
        go_wp2_with fail
        clear y0 y1 y2 yl
        refine (body_lies true H.out hd HI.out HS.out HL.out).mono ?_
        rintro e w2 ⟨rfl, x2⟩
        replace H := Lib.hid (H.out.ext x2); replace Y := Lib.hid (Y.out.ext x2); replace X := Lib.hid (X.out.trans x2)
        clear x2
        go_wp2_with fail
        refine (body_Head H.out HG.out).mono ?_
        rintro e w3 ⟨rfl, x3⟩
        replace H := Lib.hid (H.out.ext x3); replace Y := Lib.hid (Y.out.ext x3); replace X := Lib.hid (X.out.trans x3)
        clear x3
        go_wp2_with fail
        go_ret
        exact ⟨rfl, H.out.ext ((Ext.refl _).alloc _), Chg.of_ext (X.out.alloc _)⟩
      · rw [if_neg (show ¬ (g, q).2 = 0 from hq)] at hr
        cases hr
        have HU := Lib.hid (hdput_yes HK.out)
        obtain ⟨y, hy⟩ : ∃ y, w.heap.size = y := ⟨_, rfl⟩
        obtain ⟨W0, hW0⟩ : ∃ W, w.alloc (.cells #[.int .i64 hd.c, .int .i64 hd.r, .int .i64 hd.w] 28) = W := ⟨_, rfl⟩
        have Y := Lib.hid (show BoxG W0 y [.int .i64 hd.c, .int .i64 hd.r, .int .i64 hd.w] by rw [← hW0]; exact BoxG.new w _ _ hy)
        have X := Lib.hid (show Ext w W0 by rw [← hW0]; exact (Ext.refl w).alloc _)
        replace H := Lib.hid (H.out.ext X.out)
        go_enter Tryd.func12, Tryd.ntmps12
        go_wp2_with fail
        clear hW0 hy
        refine (body_place H.out HP.out).mono ?_
        rintro e w1 ⟨rfl, x1⟩
        replace H := Lib.hid (H.out.ext x1); replace Y := Lib.hid (Y.out.ext x1); replace X := Lib.hid (X.out.trans x1)
        clear x1
        have y0 := Y.out.c 0 _ rfl; have y1 := Y.out.c 1 _ rfl; have y2 := Y.out.c 2 _ rfl
        have yl := Y.out.lt
        go_wp2_with fail
        clear y0 y1 y2 yl
        refine (body_lies true H.out hd HI.out HS.out HL.out).mono ?_
        rintro e w2 ⟨rfl, x2⟩
        replace H := Lib.hid (H.out.ext x2); replace Y := Lib.hid (Y.out.ext x2); replace X := Lib.hid (X.out.trans x2)
        clear x2
        go_wp2_with fail
        refine (body_Head H.out HG.out).mono ?_
        rintro e w3 ⟨rfl, x3⟩
        replace H := Lib.hid (H.out.ext x3); replace Y := Lib.hid (Y.out.ext x3); replace X := Lib.hid (X.out.trans x3)
        clear x3
        have tq : (q == 0) = false := by simpa using hq
        go_upto_region 9 with fail
        obtain ⟨W5, hW5⟩ : ∃ W, w3.alloc (.cells #[.int .i64 g.c, .int .i64 g.r, .int .i64 g.w] 28) = W := ⟨_, rfl⟩
        have x5 : Ext w3 W5 := by rw [← hW5]; exact (Ext.refl _).alloc _
        rw [hW5]
        clear hW5
        replace H := Lib.hid (H.out.ext x5); replace Y := Lib.hid (Y.out.ext x5); replace X := Lib.hid (X.out.trans x5)
        clear x5
        have y0 := Y.out.c 0 _ rfl; have y1 := Y.out.c 1 _ rfl; have y2 := Y.out.c 2 _ rfl
        have yl := Y.out.lt
        go_wp2_with fail
        clear y0 y1 y2 yl
        refine (head_Put hd _ _ HU.out H.out.wid).mono ?_
        rintro e w4 ⟨rfl, x4⟩
        replace H := Lib.hid (H.out.ext x4); replace Y := Lib.hid (Y.out.ext x4); replace X := Lib.hid (X.out.trans x4)
        clear x4
        go_upto_region 10 with fail
        have b0 := H.out.box.c 0 _ rfl; have b1 := H.out.box.c 1 _ rfl; have b2 := H.out.box.c 2 _ rfl
        go_region_with ((go_at_call 39; refine (bmem_Zero H.out ?_ ⟨A64.out.1, by have := A64.out.2; omega⟩ ⟨by omega, by omega⟩ Z.out (by have := W0'.out; rw [E0.out] at this; exact this)).mono ?_; (repeat (first | with_reducible exact Ext.refl _ | with_reducible refine Ext.drew ?_ | with_reducible refine Ext.drewN ?_ _ | with_reducible refine Ext.alloc ?_ _)); rintro e w5 ⟨rfl, hb, hc⟩))
        all_goals
          have HB := Lib.hid hb; have C := Lib.hid ((Chg.of_ext X.out).trans hc)
          clear hb hc b0 b1 b2
          go_upto_region 11 with fail
          have b0 := HB.out.box.c 0 _ rfl; have b1 := HB.out.box.c 1 _ rfl; have b2 := HB.out.box.c 2 _ rfl
          go_region_with ((go_at_call 40; refine (bmem_Store HB.out ?_ ⟨A64.out.1, by have := A64.out.2; omega⟩ ST'.out OK.out).mono ?_; (repeat (first | with_reducible exact Ext.refl _ | with_reducible refine Ext.drew ?_ | with_reducible refine Ext.drewN ?_ _ | with_reducible refine Ext.alloc ?_ _)); rintro e w6 ⟨rfl, hb, hc⟩))
          all_goals
            have HB6 := Lib.hid hb; have HC := Lib.hid hc
            clear hb hc b0 b1 b2
            go_wp2_with fail
            go_ret
            exact ⟨rfl, HB6.out, C.out.trans HC.out⟩
    · rw [if_neg (fun q => hl q.2)] at hr
      cases hr
      have HL := Lib.hid (decide_eq_false hl)
      clear h hi hl
      obtain ⟨y, hy⟩ : ∃ y, w.heap.size = y := ⟨_, rfl⟩
      obtain ⟨W0, hW0⟩ : ∃ W, w.alloc (.cells #[.int .i64 hd.c, .int .i64 hd.r, .int .i64 hd.w] 28) = W := ⟨_, rfl⟩
      have Y := Lib.hid (show BoxG W0 y [.int .i64 hd.c, .int .i64 hd.r, .int .i64 hd.w] by rw [← hW0]; exact BoxG.new w _ _ hy)
      have X := Lib.hid (show Ext w W0 by rw [← hW0]; exact (Ext.refl w).alloc _)
      replace H := Lib.hid (H.out.ext X.out)
      go_enter Tryd.func12, Tryd.ntmps12
      go_wp2_with fail
      clear hW0 hy
      refine (body_place H.out HP.out).mono ?_
      rintro e w1 ⟨rfl, x1⟩
      replace H := Lib.hid (H.out.ext x1); replace Y := Lib.hid (Y.out.ext x1); replace X := Lib.hid (X.out.trans x1)
      clear x1
      have y0 := Y.out.c 0 _ rfl; have y1 := Y.out.c 1 _ rfl; have y2 := Y.out.c 2 _ rfl
      have yl := Y.out.lt
      go_wp2_with fail
      clear y0 y1 y2 yl
      refine (body_lies false H.out hd HI.out HS.out HL.out).mono ?_
      rintro e w2 ⟨rfl, x2⟩
      replace H := Lib.hid (H.out.ext x2); replace Y := Lib.hid (Y.out.ext x2); replace X := Lib.hid (X.out.trans x2)
      clear x2
      go_wp2_with fail
      go_ret
      exact ⟨rfl, H.out, Chg.of_ext X.out⟩
  · rw [if_neg (fun q => hi q.1)] at hr
    have HP := Lib.hid (show bPlace c t s = (0, 0, 2) by unfold bPlace; rw [if_neg hi])
    cases hr
    clear h hi
    obtain ⟨y, hy⟩ : ∃ y, w.heap.size = y := ⟨_, rfl⟩
    obtain ⟨W0, hW0⟩ : ∃ W, w.alloc (.cells #[.int .i64 hd.c, .int .i64 hd.r, .int .i64 hd.w] 28) = W := ⟨_, rfl⟩
    have Y := Lib.hid (show BoxG W0 y [.int .i64 hd.c, .int .i64 hd.r, .int .i64 hd.w] by rw [← hW0]; exact BoxG.new w _ _ hy)
    have X := Lib.hid (show Ext w W0 by rw [← hW0]; exact (Ext.refl w).alloc _)
    replace H := Lib.hid (H.out.ext X.out)
    go_enter Tryd.func12, Tryd.ntmps12
    go_wp2_with fail
    clear hW0 hy
    refine (body_place H.out HP.out).mono ?_
    rintro e w1 ⟨rfl, x1⟩
    replace H := Lib.hid (H.out.ext x1); replace Y := Lib.hid (Y.out.ext x1); replace X := Lib.hid (X.out.trans x1)
    clear x1
    go_wp2_with fail
    go_ret
    exact ⟨rfl, H.out, Chg.of_ext X.out⟩

end Go.Proofs.YtnbngcagnchkdaaDoor

/-! body: at, load, Ref, Word. -/
namespace Go.Proofs.YtnbngcagnchkdaaDoor
open Go.RowKit
variable {w w' : World} {bb mb gw gb pb gp : Nat} {c : Conf} {t : Nat} {ws ws' : List Int} {s i k u : Int} {h : Hd}

theorem hd3 (g : Hd) (w : World) {y : Nat} (hy : w.heap.size = y) : ∃ W, w.alloc (.cells #[.int .i64 g.c, .int .i64 g.r, .int .i64 g.w] 28) = W ∧ BoxG W y [.int .i64 g.c, .int .i64 g.r, .int .i64 g.w] ∧ Ext w W :=
  ⟨_, rfl, BoxG.new w _ _ hy, (Ext.refl w).alloc _⟩

/-- What at leaves: what the function value does, or nothing. -/
def AtPost (S : World → World → Prop) (k : Int) (w w' : World) : Prop := ∃ W, Ext w W ∧ ((k = 0 ∧ S W w') ∨ (k ≠ 0 ∧ W = w'))
theorem AtPost.did {S : World → World → Prop} {W : World} (hx : Ext w W) (h : S W w') : AtPost S 0 w w' := ⟨W, hx, .inl ⟨rfl, h⟩⟩
theorem AtPost.not {S : World → World → Prop} (hk : k ≠ 0) (hx : Ext w w') : AtPost S k w w' := ⟨w', hx, .inr ⟨hk, rfl⟩⟩

set_option maxHeartbeats 4000000 in
/-- A field's address is handed to the function value g. -/
theorem body_at {g : Nat} {cs : Array Value} {S : World → World → Prop} (ref : Bool) (h : BodyAt w bb mb gw gb pb gp c t ws) (hk : Enters Tryd.prog g) (hr : bField c t ws s i ref = k)
    (hg : k = 0 → ∀ W, Ext w W → Calls Tryd.prog g (#[.int .i64 (bAd c t s + 1 + i)] ++ cs) W fun e w' => e = .returned (.tuple #[]) ∧ S W w') :
    Calls Tryd.prog 65 #[.pointer (some ⟨bb, 0, none⟩), .bool ref, .int .i64 s, .int .i64 i, .func (.func g) #[] cs] w
      fun e w' => e = .returned (.int .i64 k) ∧ AtPost S k w w' := by
  unfold Enters at hk
  have H := Lib.hid h
  have KO := Lib.hid h.ko; have TI := Lib.hid h.ti
  have HR := Lib.hid hr
  unfold bField at hr
  obtain ⟨hd, q, hh⟩ : ∃ hd q, bHead c t ws s = (hd, q) := ⟨_, _, rfl⟩
  have HH := Lib.hid hh
  have HG := Lib.hid hg
  have X := Lib.hid (Ext.refl w)
  rw [hh] at hr
  clear h hg hh
  by_cases hq : q = 0
  · subst hq
    rw [if_pos rfl] at hr
    obtain ⟨f, e2, hf⟩ : ∃ f e2, hdfield hd i = (f, e2) := ⟨_, _, rfl⟩
    have HF := Lib.hid hf
    change (if hdfield hd i = (ref, 0) then (0 : Int) else 110) = k at hr
    rw [hf] at hr
    go_enter Tryd.func65, Tryd.ntmps65
    go_wp2_with fail
    refine (body_Head H.out HH.out).mono ?_
    rintro e w1 ⟨rfl, x1⟩
    replace H := Lib.hid (H.out.ext x1); replace X := Lib.hid (X.out.trans x1)
    clear x1
    go_upto_region 4 with fail
    obtain ⟨y, hy⟩ : ∃ y, w1.heap.size = y := ⟨_, rfl⟩
    obtain ⟨W2, hW2, hY, x2⟩ := hd3 hd w1 hy
    have Y := Lib.hid hY
    rw [hW2, hy]
    replace H := Lib.hid (H.out.ext x2); replace X := Lib.hid (X.out.trans x2)
    clear hW2 hy hY x2
    have y0 := Y.out.c 0 _ rfl; have y1 := Y.out.c 1 _ rfl; have y2 := Y.out.c 2 _ rfl
    have yl := Y.out.lt
    go_wp2_with fail
    clear y0 y1 y2 yl
    refine (head_Field hd i f e2 HF.out).mono ?_
    rintro e w3 ⟨rfl, x3⟩
    replace H := Lib.hid (H.out.ext x3); replace X := Lib.hid (X.out.trans x3)
    clear x3
    by_cases hfe : e2 = 0 ∧ f = ref
    · obtain ⟨rfl, rfl⟩ := hfe
      rw [if_pos rfl] at hr
      subst hr
      obtain ⟨hi, j, hj, _⟩ := bField_in HR.out
      have HP := Lib.hid (show bPlace c t s = (bAd c t s, bSz c t s, 0) by unfold bPlace; rw [if_pos hi])
      have sb := slotB KO.out TI.out hi
      have a64 := sb.is64 KO.out TI.out
      have ib := (hdfield_in hf).2
      have hb := (hdfield_in hf).1.2
      obtain ⟨A, hA⟩ : ∃ A, bAd c t s = A := ⟨_, rfl⟩
      rw [hA] at HP HG a64
      have i0 : 0 ≤ i := ib.1
      have i1 : i < 64 := by omega
      have w1' : IntKind.i64.wrap (A + 1) = A + 1 := IntWalk.i64_in _ (by omega)
      have w2' : IntKind.i64.wrap (A + 1 + i) = A + 1 + i := IntWalk.i64_in _ (by omega)
      have tf : (f != f) = false := by simp
      clear hi hj sb ib hb hf hA
      go_wp2_with fail
      refine (body_place H.out HP.out).mono ?_
      rintro e w4 ⟨rfl, x4⟩
      replace X := Lib.hid (X.out.trans x4)
      clear x4 H
      go_wp2_with fail
      refine (HG.out (by first | trivial | rfl) _ X.out).mono ?_
      rintro e w5 ⟨rfl, hs⟩
      go_wp2_with fail
      go_ret
      exact ⟨rfl, AtPost.did X.out hs⟩
    · rw [if_neg (fun e => hfe (by injection e with e1 e3; exact ⟨e3, e1⟩))] at hr
      subst hr
      by_cases he : e2 = 0
      · have hf2 : (f != ref) = true := by
          simp only [bne_iff_ne]; exact fun e => hfe ⟨he, e⟩
        have hf3 : (!f == ref) = true := by
          have : f ≠ ref := fun e => hfe ⟨he, e⟩
          cases f <;> cases ref <;> first | rfl | exact absurd rfl this
        subst he
        clear hfe hf
        go_wp2_with fail
        go_ret
        exact ⟨rfl, AtPost.not (by decide) X.out⟩
      · have he2 : (e2 == 0) = false := by simpa using he
        clear hfe hf
        go_wp2_with fail
        go_ret
        exact ⟨rfl, AtPost.not (by decide) X.out⟩
  · rw [if_neg (show ¬ (hd, q).2 = 0 from hq)] at hr
    change q = k at hr
    subst hr
    go_enter Tryd.func65, Tryd.ntmps65
    go_wp2_with fail
    refine (body_Head H.out HH.out).mono ?_
    rintro e w1 ⟨rfl, x1⟩
    replace X := Lib.hid (X.out.trans x1)
    clear x1
    go_wp2_with fail
    go_ret
    exact ⟨rfl, AtPost.not hq (X.out.alloc _)⟩

end Go.Proofs.YtnbngcagnchkdaaDoor

/-! Pages, one by one, in plain Lean: what the document's New has done when so many pages of a class are laid. No program is named here. -/
namespace Go.Proofs.YtnbngcagnchkdaaDoor
open Go.RowKit

/-- How many slots of a class are left behind d pages. -/
def leftM (S per : Int) (d : Nat) : Int := if (d : Int) * per < S then S - d * per else 0
theorem leftM_zero {S per : Int} (h : 0 ≤ S) : leftM S per 0 = S := by
  unfold leftM; split <;> simp at * <;> omega
structure PageF (c : Conf) (t k d M : Nat) : Prop where
  dP : (d : Int) < pagesOf c t k
  at_ : AtPage c t (sG c t k + d) k
  first : firstP c t (sG c t k + d) k = sS c t k + d * perOf c k
  many : manyP c t (sG c t k + d) k = M
  pos : 1 ≤ M
  per : (M : Int) ≤ perOf c k
  lef : (M : Int) ≤ slotsOf c t k - d * perOf c k
  one : (M : Int) = perOf c k ∨ (M : Int) = slotsOf c t k - d * perOf c k
  next : leftM (slotsOf c t k) (perOf c k) (d + 1) = slotsOf c t k - d * perOf c k - M
theorem pageF {c : Conf} {t k d : Nat} (ho : KOk c) (ht : t < c.ts.length) (hk : k < c.cl.length) (hd : (d : Int) * perOf c k < slotsOf c t k) : ∃ M, PageF c t k d M := by
  have bd := ho.bounds ht hk
  have p1 := bd.per1
  have dP : (d : Int) < pagesOf c t k := by
    have := pages_up (s := slotsOf c t k) (pe := perOf c k) (k := d) p1 hd
    unfold pagesOf; omega
  have hG : sG c t (k + 1) = sG c t k + pagesOf c t k := rfl
  have ap : AtPage c t (sG c t k + d) k := ⟨hk, by omega, by omega⟩
  have ea : aheadP c t (sG c t k + d) k = d * perOf c k := by
    unfold aheadP; rw [show sG c t k + (d : Int) - sG c t k = d by omega]
  have pos := (page_slots ho ht ap).1
  have hm : manyP c t (sG c t k + d) k = if slotsOf c t k - d * perOf c k < perOf c k then slotsOf c t k - d * perOf c k else perOf c k := by unfold manyP; rw [ea]
  refine ⟨(manyP c t (sG c t k + d) k).toNat, dP, ap, by unfold firstP; rw [ea], by omega, by omega, ?_, ?_, ?_, ?_⟩
  · rw [Int.toNat_of_nonneg (by omega), hm]; split <;> omega
  · rw [Int.toNat_of_nonneg (by omega), hm]; split <;> omega
  · rw [Int.toNat_of_nonneg (by omega), hm]; split <;> omega
  · rw [Int.toNat_of_nonneg (by omega), hm]
    have e : ((d + 1 : Nat) : Int) * perOf c k = d * perOf c k + perOf c k := by rw [Int.natCast_add, Int.add_mul]; simp
    unfold leftM
    rw [e]
    split <;> split <;> omega
/-- No slot is left: all pages are laid. -/
theorem pages_all {c : Conf} {t k d : Nat} (ho : KOk c) (ht : t < c.ts.length) (hk : k < c.cl.length) (hd : (d : Int) ≤ pagesOf c t k) (h : ¬ (d : Int) * perOf c k < slotsOf c t k) : (d : Int) = pagesOf c t k := by
  have p1 := (ho.bounds ht hk).per1
  exact pages_end p1 hd (by omega)
theorem PageF.slot {c : Conf} {t k d M m : Nat} (h : PageF c t k d M) (ho : KOk c) (ht : t < c.ts.length) (hm : m < M) {n : Nat} (hn : (n : Int) = sS c t k + d * perOf c k + m) :
    slc c t (n : Int) = [.int .i64 k, .int .i64 (nth c.cl k), .int .i64 ((sG c t k + d) * c.page + m * nth c.cl k), .int .i64 (sG c t k + d)] := by
  have hk := h.at_.lt
  have bd := ho.bounds ht hk
  have ip := InPage.of bd (i := m) (d := d) (by have := h.per; omega) (by have := h.lef; omega) h.dP
  rw [← hn] at ip
  have hc : AtClass c t (n : Int) k := by
    have e : sS c t (k + 1) = sS c t k + slotsOf c t k := rfl
    have h0 : 0 ≤ (d : Int) * perOf c k := Int.mul_nonneg (Int.natCast_nonneg _) (by have := bd.per1; omega)
    have := h.lef
    exact ⟨hk, by omega, by omega⟩
  unfold slc
  rw [hc.kOf ho ht, ip.ad, ip.pg]
theorem PageF.kp {c : Conf} {t k d M : Nat} (h : PageF c t k d M) (ho : KOk c) (ht : t < c.ts.length) {p : Nat} (hp : (p : Int) = sG c t k + d) : kpOf c t (p : Int) = k := by
  have := h.at_
  rw [← hp] at this
  exact this.kpOf ho ht
/-- The least place within a page that is not there. -/
theorem at_in {x per page : Int} {m : Nat} (hx : 2 ≤ x) (hp : per = page / x) (hm : (m : Int) < per) : (m : Int) * x + x ≤ page := by
  have h1 : ((m : Int) + 1) ≤ page / x := by omega
  have h2 := (Int.le_ediv_iff_mul_le (by omega : 0 < x)).1 h1
  rw [Int.add_mul] at h2
  omega
theorem at_out {x per page : Int} {m : Nat} (hx : 2 ≤ x) (hp : per = page / x) (hm : (m : Int) = per) : page < (m : Int) * x + x := by
  have h1 := Int.lt_ediv_add_one_mul_self page (by omega : 0 < x)
  rw [hm, hp]
  rw [Int.add_mul] at h1
  omega

end Go.Proofs.YtnbngcagnchkdaaDoor

/-! commonageref09.New: the document's plan. -/
namespace Go.Proofs.YtnbngcagnchkdaaDoor
open Go.RowKit

theorem info_slot : (Tryd.prog.info? 106).map (fun i => (i.zero, i.size, i.bytes)) = some (some (.agg #[.int .i64 0, .int .i64 0, .int .i64 0, .int .i64 0]), 4, 32) := by kernel_rfl
theorem info_int9 : (Tryd.prog.info? 3).map (fun i => (i.zero, i.size, i.bytes)) = some (some (.int .i64 0), 1, 8) := by kernel_rfl
theorem own_slice {w : World} {base e s n : Nat} {v : Value} {xs : List Value} (h : w.ownsRow base e s v n xs) : ∃ a cap, v = .slice a n cap := by
  rcases h.2 with ⟨rfl, rfl⟩ | ⟨g, cap, cur, rfl, _⟩
  · exact ⟨none, 0, rfl⟩
  · exact ⟨_, cap, rfl⟩
theorem own_at {g n cap H : Nat} {v : Value} (h : v.ownBlock = some g ∨ g = H) : ∀ g', (Value.slice (some ⟨g, 0, none⟩) n cap).ownBlock = some g' → v.ownBlock = some g' ∨ H ≤ g' := by
  intro g' e
  have : g = g' := by simpa [Value.ownBlock] using e
  subst this
  rcases h with h | h
  · exact .inl h
  · exact .inr (by omega)

theorem newsb9 {W : World} {b : Nat} (v : Value) (t : TypeId) (hb : W.heap.size = b) : ∀ j u, [v][j]? = some u → (W.alloc (.cells #[v] t)).cell? ((⟨b, 0, none⟩ : Addr).add j) = some u := by
  subst hb; exact news1 W v t

theorem DPlan.far {w : World} {lb fb mb x o : Nat} {ca : Option Addr} {c : Conf} {t : Nat} {u : Value} (h : DPlan w lb fb mb ca c t) (h1 : lb ≠ x) (h2 : fb ≠ x) (h3 : mb ≠ x) (h4 : ∀ b o, ca = some ⟨b, o, none⟩ → b ≠ x) : DPlan (w.setCell ⟨x, o, none⟩ u) lb fb mb ca c t := by
  have fa : ∀ {a : Option Addr} {xs : List Int}, (∀ b o, a = some ⟨b, o, none⟩ → b ≠ x) → At .i64 w a xs → At .i64 (w.setCell ⟨x, o, none⟩ u) a xs := fun hne ha i hi => by
    obtain ⟨b', o', e, hc⟩ := ha i hi
    exact ⟨b', o', e, by rw [cell_far _ _ _ _ (show x ≠ b' from Ne.symm (hne b' o' e))]; exact hc⟩
  exact ⟨h.ok, h.ti, fun s hs j v hv => by rw [cell_far _ _ _ _ (show x ≠ lb from Ne.symm h1)]; exact h.l s hs j v hv, fa (fun b o e => by cases e; exact h2) h.f, fa (fun b o e => by cases e; exact h3) h.m, fa h4 h.k⟩

/-- What New hands back. -/
def DocNewC (ca : Option Addr) (cc : Nat) (c : Conf) (t : Nat) (w : World) (e : Ending) (w' : World) : Prop :=
  ∃ lb lc fb fc mb mc, e = .returned (.tuple #[dpv lb lc fb fc mb mc ca cc c t, .int .i64 0]) ∧ DPlan w' lb fb mb ca c t ∧ Ext w w'
def DocNew (c : Conf) (t : Nat) (w : World) (e : Ending) (w' : World) : Prop :=
  ∃ lb lc fb fc mb mc ca cc, e = .returned (.tuple #[dpv lb lc fb fc mb mc ca cc c t, .int .i64 0]) ∧ DPlan w' lb fb mb ca c t ∧ Ext w w'

set_option maxHeartbeats 2000000 in
theorem ref09_New_no {ca ta : Option Addr} {cc tc : Nat} (c : Conf) (t : Int) {w : World} (hn : ¬ there c t 0) (h : CfgAt w ca ta cc tc c) :
    Calls Tryd.prog 20 #[.agg #[.slice ca c.cl.length cc, .int .i64 c.page, .slice ta c.ts.length tc, .int .i64 c.wk, .int .i64 c.gr, .int .i64 c.gens], .int .i64 t] w fun e w' => e = .returned (.tuple #[.agg #[.slice none 0 0, .slice none 0 0, .slice none 0 0, .int .i64 0, .slice none 0 0], .int .i64 2]) ∧ Ext w w' := by
  have h1 := (Ext.refl (w.alloc (.cells #[.slice ca c.cl.length cc, .int .i64 c.page, .slice ta c.ts.length tc, .int .i64 c.wk, .int .i64 c.gr, .int .i64 c.gens] 25))).alloc (.cells #[.slice none 0 0, .slice none 0 0, .slice none 0 0, .int .i64 0, .slice none 0 0] 38)
  have hx := (Ext.refl w).alloc (.cells #[.slice ca c.cl.length cc, .int .i64 c.page, .slice ta c.ts.length tc, .int .i64 c.wk, .int .i64 c.gr, .int .i64 c.gens] 25)
  obtain ⟨z, hz⟩ : ∃ z, w.heap.size = z := ⟨_, rfl⟩
  have BR : Hid (∀ i u, #[Value.slice none 0 0, .slice none 0 0, .slice none 0 0, .int .i64 0, .slice none 0 0][i]? = some u → ((w.alloc (.cells #[.slice ca c.cl.length cc, .int .i64 c.page, .slice ta c.ts.length tc, .int .i64 c.wk, .int .i64 c.gr, .int .i64 c.gens] 25)).alloc (.cells #[.slice none 0 0, .slice none 0 0, .slice none 0 0, .int .i64 0, .slice none 0 0] 38)).cell? ⟨z + 1, i, none⟩ = some u) := Lib.hid fun i u hu => by
    have := cell_newN (w.alloc (.cells #[.slice ca c.cl.length cc, .int .i64 c.page, .slice ta c.ts.length tc, .int .i64 c.wk, .int .i64 c.gr, .int .i64 c.gens] 25)) #[Value.slice none 0 0, .slice none 0 0, .slice none 0 0, .int .i64 0, .slice none 0 0] 38 i
    rw [hu] at this
    rw [show z + 1 = (w.alloc (.cells #[.slice ca c.cl.length cc, .int .i64 c.page, .slice ta c.ts.length tc, .int .i64 c.wk, .int .i64 c.gr, .int .i64 c.gens] 25)).heap.size by simp [hz]]
    exact this
  have FR : Hid (∀ i, ((w.alloc (.cells #[.slice ca c.cl.length cc, .int .i64 c.page, .slice ta c.ts.length tc, .int .i64 c.wk, .int .i64 c.gr, .int .i64 c.gens] 25)).alloc (.cells #[.slice none 0 0, .slice none 0 0, .slice none 0 0, .int .i64 0, .slice none 0 0] 38)).frozen? ⟨z + 1, i, none⟩ = false) := Lib.hid fun i => by
    rw [show z + 1 = (w.alloc (.cells #[.slice ca c.cl.length cc, .int .i64 c.page, .slice ta c.ts.length tc, .int .i64 c.wk, .int .i64 c.gr, .int .i64 c.gens] 25)).heap.size by simp [hz]]
    exact World.frozen?_alloc_at _ _ _ _ rfl
  have R := Lib.hid (kregion_no hn)
  have H := Lib.hid h
  clear h hn
  go_enter Tryd.func20, Tryd.ntmps20
  go_wp2_with fail
  refine (ref06_Region c t 0 2 R.out (H.out.ext (hx.trans h1))).mono ?_
  rintro e w1 ⟨rfl, h2⟩
  have X := hx.trans (h1.trans h2)
  have r0 := h2.cell (BR.out 0 _ rfl); have r1 := h2.cell (BR.out 1 _ rfl); have r2 := h2.cell (BR.out 2 _ rfl); have r3 := h2.cell (BR.out 3 _ rfl); have r4 := h2.cell (BR.out 4 _ rfl)
  have rf : ∀ o, w1.frozen? ⟨z + 1, o, none⟩ = false := fun o => by rw [h2.frozen (p := ⟨z + 1, o, none⟩) (by simp [hz])]; exact FR.out o
  have f0 := rf 0; have f1 := rf 1; have f2 := rf 2; have f3 := rf 3; have f4 := rf 4
  clear rf
  go_wp2_with fail
  have s0 := set_same (w := w1) (u := .slice none 0 0) r0
  have s1 := set_same (w := (w1.setCell ⟨z + 1, 0, none⟩ (.slice none 0 0))) (u := .slice none 0 0) (set_oth (by decide) r1)
  have s2 := set_same (w := ((w1.setCell ⟨z + 1, 0, none⟩ (.slice none 0 0)).setCell ⟨z + 1, 1, none⟩ (.slice none 0 0))) (u := .slice none 0 0) (set_oth (by decide) (set_oth (by decide) r2))
  have s3 := set_same (w := (((w1.setCell ⟨z + 1, 0, none⟩ (.slice none 0 0)).setCell ⟨z + 1, 1, none⟩ (.slice none 0 0)).setCell ⟨z + 1, 2, none⟩ (.slice none 0 0))) (u := .int .i64 0) (set_oth (by decide) (set_oth (by decide) (set_oth (by decide) r3)))
  have s4 := set_same (w := ((((w1.setCell ⟨z + 1, 0, none⟩ (.slice none 0 0)).setCell ⟨z + 1, 1, none⟩ (.slice none 0 0)).setCell ⟨z + 1, 2, none⟩ (.slice none 0 0)).setCell ⟨z + 1, 3, none⟩ (.int .i64 0))) (u := .slice none 0 0) (set_oth (by decide) (set_oth (by decide) (set_oth (by decide) (set_oth (by decide) r4))))
  have e1 : w.heap.size ≤ z + 1 := by omega
  exact bodyPost_ret (v := .tuple #[.agg #[.slice none 0 0, .slice none 0 0, .slice none 0 0, .int .i64 0, .slice none 0 0], .int .i64 2]) (by simp [results, Tryd.results20, go_sem, s0, s1, s2, s3, s4]) rfl ⟨rfl, ((((X.setCell (p := ⟨z + 1, 0, none⟩) e1 _).setCell (p := ⟨z + 1, 1, none⟩) e1 _).setCell (p := ⟨z + 1, 2, none⟩) e1 _).setCell (p := ⟨z + 1, 3, none⟩) e1 _).setCell (p := ⟨z + 1, 4, none⟩) e1 _⟩

set_option maxRecDepth 100000 in
set_option maxHeartbeats 32000000 in
theorem ref09_NewC {ca ta : Option Addr} {cc tc : Nat} (c : Conf) (i : Nat) {w : World} (hk0 : kcheck c = 0) (hi : i < c.ts.length) (h : CfgAt w ca ta cc tc c) :
    Calls Tryd.prog 20 #[.agg #[.slice ca c.cl.length cc, .int .i64 c.page, .slice ta c.ts.length tc, .int .i64 c.wk, .int .i64 c.gr, .int .i64 c.gens], .int .i64 i] w (DocNewC ca cc c i w) := by
  obtain ⟨i0, hi0, hz0, hz1, hz2⟩ := info_parts info_int9
  obtain ⟨j0, hj0, hy0, hy1, hy2⟩ := info_parts info_slot
  have hx := (Ext.refl w).alloc (.cells #[.slice ca c.cl.length cc, .int .i64 c.page, .slice ta c.ts.length tc, .int .i64 c.wk, .int .i64 c.gr, .int .i64 c.gens] 25)
  obtain ⟨z, hz⟩ : ∃ z, w.heap.size = z := ⟨_, rfl⟩
  have BR : Hid (∀ i u, #[Value.slice none 0 0, .slice none 0 0, .slice none 0 0, .int .i64 0, .slice none 0 0][i]? = some u → ((w.alloc (.cells #[.slice ca c.cl.length cc, .int .i64 c.page, .slice ta c.ts.length tc, .int .i64 c.wk, .int .i64 c.gr, .int .i64 c.gens] 25)).alloc (.cells #[.slice none 0 0, .slice none 0 0, .slice none 0 0, .int .i64 0, .slice none 0 0] 38)).cell? ⟨z + 1, i, none⟩ = some u) := Lib.hid fun i u hu => by
    have := cell_newN (w.alloc (.cells #[.slice ca c.cl.length cc, .int .i64 c.page, .slice ta c.ts.length tc, .int .i64 c.wk, .int .i64 c.gr, .int .i64 c.gens] 25)) #[Value.slice none 0 0, .slice none 0 0, .slice none 0 0, .int .i64 0, .slice none 0 0] 38 i
    rw [hu] at this
    rw [show z + 1 = (w.alloc (.cells #[.slice ca c.cl.length cc, .int .i64 c.page, .slice ta c.ts.length tc, .int .i64 c.wk, .int .i64 c.gr, .int .i64 c.gens] 25)).heap.size by simp [hz]]
    exact this
  have FR : Hid (∀ i, ((w.alloc (.cells #[.slice ca c.cl.length cc, .int .i64 c.page, .slice ta c.ts.length tc, .int .i64 c.wk, .int .i64 c.gr, .int .i64 c.gens] 25)).alloc (.cells #[.slice none 0 0, .slice none 0 0, .slice none 0 0, .int .i64 0, .slice none 0 0] 38)).frozen? ⟨z + 1, i, none⟩ = false) := Lib.hid fun i => by
    rw [show z + 1 = (w.alloc (.cells #[.slice ca c.cl.length cc, .int .i64 c.page, .slice ta c.ts.length tc, .int .i64 c.wk, .int .i64 c.gr, .int .i64 c.gens] 25)).heap.size by simp [hz]]
    exact World.frozen?_alloc_at _ _ _ _ rfl
  have ho := kcheck_ok hk0
  have K0 := Lib.hid hk0
  have HO := Lib.hid ho
  have c8 := ho.cl.most
  have c1 := ho.cl.pos
  have R := Lib.hid (kregion_yes (there_mk (i := i) (j := 0) hk0 hi c1))
  obtain ⟨wo, hwo⟩ : ∃ p, wordsOf c i = p := ⟨_, rfl⟩
  rw [hwo] at R
  have HWO := Lib.hid hwo
  have H := Lib.hid h
  obtain ⟨cb, co, rfl, hc⟩ := h.cl.pos c1
  have HC := Lib.hid hc
  have h1 := (Ext.refl (w.alloc (.cells #[.slice (some ⟨cb, co, none⟩) c.cl.length cc, .int .i64 c.page, .slice ta c.ts.length tc, .int .i64 c.wk, .int .i64 c.gr, .int .i64 c.gens] 25))).alloc (.cells #[.slice none 0 0, .slice none 0 0, .slice none 0 0, .int .i64 0, .slice none 0 0] 38)
  clear h hk0 ho hwo hc
  go_enter Tryd.func20, Tryd.ntmps20
  go_wp2_with fail
  refine (ref06_Region c i wo 0 R.out (H.out.ext (hx.trans h1))).mono ?_
  rintro e w1 ⟨rfl, h2⟩
  have X1 := Lib.hid h2
  replace h1 := h1.trans h2
  clear h2
  obtain ⟨b0, b1, b2, b3, b4, b5⟩ := box6 h1
  rw [hz] at b0 b1 b2 b3 b4 b5
  have hlt1 : z < w1.heap.size := cell_lt b0
  go_wp2_with fail
  have PR0 : Hid (DocR ((w.alloc (.cells #[.slice (some ⟨cb, co, none⟩) c.cl.length cc, .int .i64 c.page, .slice ta c.ts.length tc, .int .i64 c.wk, .int .i64 c.gr, .int .i64 c.gens] 25)).alloc (.cells #[.slice none 0 0, .slice none 0 0, .slice none 0 0, .int .i64 0, .slice none 0 0] 38)) c i w1.heap.size 0 0 0 (some ⟨cb, co, none⟩) cc wo (.slice none 0 0) (.slice none 0 0) (.slice none 0 0) (w1.alloc (.cells #[.slice none 0 0, .slice none 0 0, .slice none 0 0, .int .i64 wo, .slice (some ⟨cb, co, none⟩) c.cl.length cc] 38))) :=
    Lib.hid (DocR.start (cell_newN _ _ _ 0) (cell_newN _ _ _ 1) (cell_newN _ _ _ 2) (cell_newN _ _ _ 3) (cell_newN _ _ _ 4) (fun o => World.frozen?_alloc_at _ _ _ _ rfl) X1.out.size (X1.out.alloc _))
  clear b0 b1 b2 b3 b4 b5 hlt1 h1
  generalize w1.heap.size = b at *
  go_loopw [9] (fun kv wr => ∃ (k n p : Nat) (lv fv mv : Value), k ≤ c.cl.length ∧ kv = .int .i64 k ∧ Hid ((n : Int) = sS c i k) ∧ Hid ((p : Int) = sG c i k) ∧ Hid (DocR ((w.alloc (.cells #[.slice (some ⟨cb, co, none⟩) c.cl.length cc, .int .i64 c.page, .slice ta c.ts.length tc, .int .i64 c.wk, .int .i64 c.gr, .int .i64 c.gens] 25)).alloc (.cells #[.slice none 0 0, .slice none 0 0, .slice none 0 0, .int .i64 0, .slice none 0 0] 38)) c i b n p p (some ⟨cb, co, none⟩) cc wo lv fv mv wr)) (fun kv _ => c.cl.length - (intOf kv).toNat)
  case atStart => exact ⟨0, 0, 0, _, _, _, Nat.zero_le _, rfl, rfl, rfl, PR0⟩
  case round =>
    clear PR0 X1
    obtain ⟨k, n, p, lv, fv, mv, hk, rfl, EN, EP, PR⟩ := hrel
    obtain ⟨b0, b1, b2, b3, b4, b5⟩ := box6 (((Ext.refl _).alloc _).trans PR.out.ext)
    rw [hz] at b0 b1 b2 b3 b4 b5
    by_cases hlt : k < c.cl.length
    · have KS := Lib.hid (kslots_yes (there_mk K0.out hi hlt))
      have bd := HO.out.bounds hi hlt
      have u1 := bd.c2; have u2 := bd.cpage; have u3 := bd.p64; have u4 := bd.c64; have u5 := bd.s1; have u6 := bd.s2048; have u7 := bd.pg1; have u8 := bd.pg2048; have u9 := bd.per1; have u10 := bd.per32
      have HPE := Lib.hid (show perOf c k = c.page / nth c.cl k from rfl)
      have SS := Lib.hid (show sS c i (k + 1) = sS c i k + slotsOf c i k from rfl)
      have SG := Lib.hid (show sG c i (k + 1) = sG c i k + pagesOf c i k from rfl)
      clear bd
      go_wp2_with fail
      clear b0 b1 b2 b3 b4 b5
      refine (ref06_Slots c i k _ 0 KS.out (H.out.ext (hx.trans (((Ext.refl _).alloc _).trans PR.out.ext)))).mono ?_
      rintro e w2 ⟨rfl, h2⟩
      have PR2 := Lib.hid (PR.out.go h2)
      clear h2 PR
      go_wp2_with fail
      go_loopw [10] (fun lfv wq => ∃ (d n2 p2 : Nat) (lf : Int) (lv fv mv : Value), (d : Int) ≤ pagesOf c i k ∧ lfv = .int .i64 lf ∧ Hid (lf = leftM (slotsOf c i k) (perOf c k) d) ∧ Hid ((n2 : Int) = sS c i k + slotsOf c i k - lf) ∧ Hid ((p2 : Int) = sG c i k + d) ∧ Hid (DocR ((w.alloc (.cells #[.slice (some ⟨cb, co, none⟩) c.cl.length cc, .int .i64 c.page, .slice ta c.ts.length tc, .int .i64 c.wk, .int .i64 c.gr, .int .i64 c.gens] 25)).alloc (.cells #[.slice none 0 0, .slice none 0 0, .slice none 0 0, .int .i64 0, .slice none 0 0] 38)) c i b n2 p2 p2 (some ⟨cb, co, none⟩) cc wo lv fv mv wq)) (fun lfv _ => (intOf lfv).toNat)
      case atStart => exact ⟨0, n, p, slotsOf c i k, lv, fv, mv, by omega, rfl, (leftM_zero (by omega)).symm, by have := EN.out; unfold Hid; omega, by have := EP.out; unfold Hid; omega, PR2⟩
      case round =>
        clear PR2
        obtain ⟨d, n2, p2, lf, lv, fv, mv, hd, rfl, EL, EN2, EP2, PR⟩ := hrel
        obtain ⟨b0, b1, b2, b3, b4, b5⟩ := box6 (((Ext.refl _).alloc _).trans PR.out.ext)
        rw [hz] at b0 b1 b2 b3 b4 b5
        by_cases hlf : 0 < lf
        · have hdl : (d : Int) * perOf c k < slotsOf c i k := by
            have := EL.out
            unfold leftM at this
            split at this
            · assumption
            · omega
          have hlf2 : lf = slotsOf c i k - d * perOf c k := by
            have := EL.out
            unfold leftM at this
            rw [if_pos hdl] at this
            exact this
          obtain ⟨M, PF⟩ := pageF HO.out hi hlt hdl
          have M1 := PF.pos; have M2 := PF.per; have M3 := PF.lef
          have PFH := Lib.hid PF
          have gl := HO.out.sG_le hi (Nat.le_refl _)
          have gm := sG_mono HO.out hi (a := k + 1) (b := c.cl.length) hlt (Nat.le_refl _)
          have p2b : p2 ≤ 16384 := by have := EP2.out; have := PF.dP; have := SG.out; omega
          have sl := HO.out.sS_le hi (Nat.le_refl _)
          have n2b : n2 + M ≤ 16384 := by
            have := sS_mono HO.out hi (a := k + 1) (b := c.cl.length) hlt (Nat.le_refl _)
            have := EN2.out; have := SS.out; omega
          have F1 : Hid (firsts c i (p2 + 1) = firsts c i p2 ++ [(n2 : Int)]) := Lib.hid (by
            rw [firsts_succ, PF.kp HO.out hi EP2.out, EP2.out, PF.first]
            have := EN2.out
            rw [show sS c i k + (d : Int) * perOf c k = n2 by omega])
          have F2 : Hid (manys c i (p2 + 1) = manys c i p2 ++ [(M : Int)]) := Lib.hid (by
            rw [manys_succ, PF.kp HO.out hi EP2.out, EP2.out, PF.many])
          have EN3 : Hid ((n2 : Int) = sS c i k + d * perOf c k) := Lib.hid (by have := EN2.out; omega)
          have NX : Hid (leftM (slotsOf c i k) (perOf c k) (d + 1) = lf - M) := Lib.hid (by rw [PF.next]; omega)
          have ONE : Hid ((M : Int) = perOf c k ∨ (M : Int) = lf) := Lib.hid (by have := PF.one; omega)
          have lfb : lf ≤ 2048 := by
            have h0 : 0 ≤ (d : Int) * perOf c k := Int.mul_nonneg (Int.natCast_nonneg _) (by omega)
            omega
          have ML : (M : Int) ≤ lf := by omega
          have HLF := Lib.hid hlf2
          have DP := Lib.hid PF.dP
          obtain ⟨fa, fcap, rfl⟩ := own_slice PR.out.of
          obtain ⟨la, lcap, rfl⟩ := own_slice PR.out.ol
          have q0 := PR.out.c0
          have q1 := PR.out.c1
          have bl : b < wr.heap.size := cell_lt q0
          clear PF hdl hlf2 gl gm sl EL EN2 M3
          go_wp2_with (at_builtin; refine wpList_append_lies _ rfl (.tmp 48) (.tmp 52) 22 rfl (b + 1) 3 i0 (.int .i64 0) 1 8 Tryd.underlying22 hi0 hz0 hz1 hz2 rfl (by decide) (.slice fa p2 fcap) p2 (ncs .i64 (firsts c i p2)) rfl (own_ext PR.out.of ((Ext.refl _).alloc _)) ⟨wr.heap.size, 0, none⟩ 1 1 [.int .i64 n2] rfl rfl (news1 _ _ _) (one1 rfl) (by decide) (by unfold maxLen; omega) (by omega) (by simp; omega) (wr.heap.size + 1) (by simp) ?_; intro gg cap w4 hown hgrow hat hlt4; obtain ⟨g0, g1, g2, g3, g4, gf, ge⟩ := PR.out.grown PR.out.of ((Ext.refl _).alloc _) hgrow; have gf1 := gf 1; have PR4 := Lib.hid (PR.out.pushF ((Ext.refl _).alloc _) hgrow (by rw [F1.out, ← ncs_snoc]; exact hown) (by rw [World.size_alloc]; exact own_at hat)); clear hown hgrow hat hlt4 gf)
          clear b0 b1 b2 b3 b4 b5 q0 q1 bl g0 g1 g2 g3 g4 gf1 ge PR
          go_loopw [10, 13, 14] (fun lfv mv' av wq => ∃ (m n3 : Nat) (at_ L : Int) (lv : Value), m ≤ M ∧ lfv = .int .i64 L ∧ Hid (L = lf - m) ∧ mv' = .int .i64 m ∧ av = .int .i64 at_ ∧ Hid (at_ = m * nth c.cl k) ∧ Hid (n3 = n2 + m) ∧ Hid (DocR ((w.alloc (.cells #[.slice (some ⟨cb, co, none⟩) c.cl.length cc, .int .i64 c.page, .slice ta c.ts.length tc, .int .i64 c.wk, .int .i64 c.gr, .int .i64 c.gens] 25)).alloc (.cells #[.slice none 0 0, .slice none 0 0, .slice none 0 0, .int .i64 0, .slice none 0 0] 38)) c i b n3 (p2 + 1) p2 (some ⟨cb, co, none⟩) cc wo lv (.slice (some ⟨gg, 0, none⟩) (p2 + 1) cap) mv wq)) (fun _ mv' _ _ => M - (intOf mv').toNat)
          case atStart => exact ⟨0, n2, 0, lf, _, Nat.zero_le _, rfl, by unfold Hid; simp, rfl, rfl, by unfold Hid; simp, rfl, PR4⟩
          case round =>
            clear PR4
            obtain ⟨m, n3, at_, L, lv, hm, rfl, ELF, rfl, rfl, EA, EN4, PR⟩ := hrel
            have L0 : 0 ≤ L ∧ L ≤ 2048 := by have := ELF.out; omega
            obtain ⟨L0, L1⟩ := L0
            obtain ⟨b0, b1, b2, b3, b4, b5⟩ := box6 (((Ext.refl _).alloc _).trans PR.out.ext)
            rw [hz] at b0 b1 b2 b3 b4 b5
            have zk := (hx.trans (((Ext.refl _).alloc _).trans PR.out.ext)).cell (HC.out k hlt)
            have at0 : 0 ≤ at_ ∧ at_ ≤ 2048 := by
              rw [EA.out]
              have := mul_bd (a := (m : Int)) (b := nth c.cl k) (A := 32) (B := 64) (by omega) (by omega) (by omega) u4
              omega
            have hk0 : (0 : Int) ≤ (k : Int) := Int.natCast_nonneg _
            have hk1 : (k : Int) < (c.cl.length : Int) := by omega
            obtain ⟨at0, at1⟩ := at0
            have ww : IntKind.i64.wrap (at_ + nth c.cl k) = at_ + nth c.cl k := IntWalk.i64_in _ (by omega)
            by_cases hmM : m < M
            · have L2 : 1 ≤ L := by have := ELF.out; omega
              have t1 : decide (0 < L) = true := by simp; omega
              have t2 : decide (at_ + nth c.cl k ≤ c.page) = true := by
                have := at_in (m := m) u1 HPE.out (by omega); rw [← EA.out] at this; simpa using this
              go_wp2_with fail
              refine wp_region_quiet_lit (by kernel_rfl) (by kernel_rfl) ?_
              repeat (any_goals (first | go_big_quiet_step (fail) | quiet_step (fail) | simp only [t1]))
              all_goals (refine wpQuiet_nil ?_; intro _ hw'; obtain ⟨nq, hw''⟩ := hw'; subst hw'')
              go_wp2_with fail
              have PR5 := Lib.hid (PR.out.go ((Ext.refl _).drewN nq))
              clear b0 b1 b2 b3 b4 b5 zk t1 t2 ww PR
              obtain ⟨b0, b1, b2, b3, b4, b5⟩ := box6 (((Ext.refl _).alloc _).trans PR5.out.ext)
              rw [hz] at b0 b1 b2 b3 b4 b5
              have zk := (hx.trans (((Ext.refl _).alloc _).trans PR5.out.ext)).cell (HC.out k hlt)
              generalize wr.drewN nq = w5 at *
              obtain ⟨la3, lcap3, rfl⟩ := own_slice PR5.out.ol
              have q0 := PR5.out.c0
              have bl : b < w5.heap.size := cell_lt q0
              have zl : z < w5.heap.size := cell_lt b0
              have cl : cb < w5.heap.size := cell_lt zk
              have zb : b ≠ z := by have := PR5.out.lo; simp at this; omega
              have cbb : b ≠ cb := by have := PR5.out.lo; have := HC.out k hlt; have := cell_lt this; simp at *; omega
              have n0 : ¬ b = w5.heap.size := by omega
              obtain ⟨PP, hPP⟩ : ∃ x, (p2 : Int) * c.page = x := ⟨_, rfl⟩
              have wb := mul_bd (a := (p2 : Int)) (b := c.page) (A := 16384) (B := 64) (by omega) (by omega) (by omega) u3
              rw [hPP] at wb
              obtain ⟨wb0, wb1⟩ := wb
              have k1 : IntKind.i64.wrap ((p2 : Int) * c.page) = PP := by rw [hPP]; exact IntWalk.i64_in _ (by omega)
              have k2 : IntKind.i64.wrap (PP + at_) = PP + at_ := IntWalk.i64_in _ (by omega)
              have SLC : Hid (slcs c i (n3 + 1) = slcs c i n3 ++ [.int .i64 k, .int .i64 (nth c.cl k), .int .i64 (PP + at_), .int .i64 p2]) := Lib.hid (by
                show slcs c i n3 ++ slc c i (n3 : Int) = _
                rw [PFH.out.slot HO.out hi hmM (n := n3) (by rw [EN4.out]; have := EN3.out; omega), ← EP2.out, hPP, EA.out])
              have n3b : n3 + 1 ≤ 16384 := by have := EN4.out; omega
              have NB1 := Lib.hid (show ∀ j u, [Value.int .i64 k, .int .i64 (nth c.cl k), .int .i64 (PP + at_), .int .i64 p2][j]? = some u → (w5.drew.alloc (.cells #[.int .i64 k, .int .i64 (nth c.cl k), .int .i64 (PP + at_), .int .i64 p2] 106)).cell? ((⟨w5.heap.size, 0, none⟩ : Addr).add j) = some u from fun j u hu => World.news_of_block (heap_alloc_new w5.drew _) j u hu)
              have NB2 := Lib.hid (show ∀ j u, [Value.int .i64 k, .int .i64 (nth c.cl k), .int .i64 (PP + at_), .int .i64 p2][j]? = some u → ((w5.alloc (.cells #[.int .i64 k, .int .i64 (nth c.cl k), .int .i64 (PP + at_), .int .i64 p2] 106)).drew).cell? ((⟨w5.heap.size, 0, none⟩ : Addr).add j) = some u from fun j u hu => (Ext.refl _).drew.cell (World.news_of_block (heap_alloc_new w5 _) j u hu))
              have one4 : ∀ u ∈ [Value.int .i64 k, .int .i64 (nth c.cl k), .int .i64 (PP + at_), .int .i64 p2], u.oneCell' = true := by
                intro u h
                simp only [List.mem_cons, List.not_mem_nil, or_false] at h
                rcases h with rfl | rfl | rfl | rfl <;> rfl
              have ONE4 := Lib.hid one4
              clear hPP one4
              refine wp_region_noPanic ?_
              refine wp_region_held_drew (S := (fun w' => w'.cell? ⟨z, 0, none⟩ = some (.slice (some ⟨cb, co, none⟩) c.cl.length cc) ∧ w'.cell? ⟨z, 1, none⟩ = some (.int .i64 c.page) ∧ w'.cell? ⟨cb, co + k, none⟩ = some (.int .i64 (nth c.cl k)))) (by kernel_rfl) ?_ (fun hHeld => ?_)
              focus ((try dsimp only); first | with_reducible exact ⟨e0, e1, ez⟩ | with_reducible exact ⟨(cell_far _ _ _ _ zb).trans e0, (cell_far _ _ _ _ zb).trans e1, (cell_far _ _ _ _ cbb).trans ez⟩ | go_keep)
              refine wpAnyH_take (i := 0) (v := ?_) rfl (by kernel_rfl) (by kernel_rfl) (by kernel_rfl) (fun _ _ _ h => h) (Or.inl ⟨by rfl, ?_⟩) (by assumption) ?_
              rotate_left
              focus (intro w hSw; (try dsimp only at hSw); go_simp; try with_reducible rfl)
              try simp only [Act.put, List.setIfInBounds_toArray, List.set_cons_zero, List.set_cons_succ]
              refine wpAnyH_take (i := 2) (v := ?_) rfl (by kernel_rfl) (by kernel_rfl) (by kernel_rfl) (fun _ _ _ h => h) (Or.inl ⟨by rfl, ?_⟩) (by assumption) ?_
              rotate_left
              focus (intro w hSw; (try dsimp only at hSw); go_simp; try with_reducible rfl)
              try simp only [Act.put, List.setIfInBounds_toArray, List.set_cons_zero, List.set_cons_succ]
              refine wpAnyH_take (i := 3) (v := ?_) rfl (by kernel_rfl) (by kernel_rfl) (by kernel_rfl) (fun _ _ _ h => h) (Or.inl ⟨by rfl, ?_⟩) (by assumption) ?_
              rotate_left
              focus (intro w hSw; (try dsimp only at hSw); go_simp; try with_reducible rfl)
              try simp only [Act.put, List.setIfInBounds_toArray, List.set_cons_zero, List.set_cons_succ]
              refine wpAnyH_take (i := 4) (v := ?_) rfl (by kernel_rfl) (by kernel_rfl) (by kernel_rfl) (fun _ _ _ h => h) (Or.inl ⟨by rfl, ?_⟩) (by assumption) ?_
              rotate_left
              focus (intro w hSw; (try dsimp only at hSw); go_simp; try with_reducible rfl)
              try simp only [Act.put, List.setIfInBounds_toArray, List.set_cons_zero, List.set_cons_succ]
              refine wpAnyH_take (i := 5) (v := ?_) rfl (by kernel_rfl) (by kernel_rfl) (by kernel_rfl) (fun _ _ _ h => h) (Or.inl ⟨by rfl, ?_⟩) (by assumption) ?_
              rotate_left
              focus (intro w hSw; (try dsimp only at hSw); go_simp; try with_reducible rfl)
              try simp only [Act.put, List.setIfInBounds_toArray, List.set_cons_zero, List.set_cons_succ]
              refine wpAnyH_take (i := 6) (v := ?_) rfl (by kernel_rfl) (by kernel_rfl) (by kernel_rfl) (fun _ _ _ h => h) (Or.inl ⟨by rfl, ?_⟩) (by assumption) ?_
              rotate_left
              focus (intro w hSw; (try dsimp only at hSw); go_simp; try with_reducible rfl)
              try simp only [Act.put, List.setIfInBounds_toArray, List.set_cons_zero, List.set_cons_succ]
              refine wpAnyH_take (i := 7) (v := ?_) rfl (by kernel_rfl) (by kernel_rfl) (by kernel_rfl) (fun _ _ _ h => h) (Or.inl ⟨by rfl, ?_⟩) (by assumption) ?_
              rotate_left
              focus (intro w hSw; (try dsimp only at hSw); go_simp; try with_reducible rfl)
              try simp only [Act.put, List.setIfInBounds_toArray, List.set_cons_zero, List.set_cons_succ]
              refine wpAnyH_take (i := 8) (v := ?_) rfl (by kernel_rfl) (by kernel_rfl) (by kernel_rfl) (fun _ _ _ h => h) (Or.inl ⟨by rfl, ?_⟩) (by assumption) ?_
              rotate_left
              focus (intro w hSw; (try dsimp only at hSw); go_simp; try with_reducible rfl)
              try simp only [Act.put, List.setIfInBounds_toArray, List.set_cons_zero, List.set_cons_succ]
              refine wpAnyH_take (i := 9) (v := ?_) rfl (by kernel_rfl) (by kernel_rfl) (by kernel_rfl) (fun _ _ _ h => h) (Or.inl ⟨by rfl, ?_⟩) (by assumption) ?_
              rotate_left
              focus (intro w hSw; (try dsimp only at hSw); go_simp; try with_reducible rfl)
              try simp only [Act.put, List.setIfInBounds_toArray, List.set_cons_zero, List.set_cons_succ]
              refine wpAnyH_take (i := 10) (v := ?_) rfl (by kernel_rfl) (by kernel_rfl) (by kernel_rfl) (fun _ _ _ h => h) (Or.inl ⟨by rfl, ?_⟩) (by assumption) ?_
              rotate_left
              focus (intro w hSw; (try dsimp only at hSw); go_simp; try with_reducible rfl)
              try simp only [Act.put, List.setIfInBounds_toArray, List.set_cons_zero, List.set_cons_succ]
              refine wpAnyH_take (i := 11) (v := ?_) rfl (by kernel_rfl) (by kernel_rfl) (by kernel_rfl) (fun _ _ _ h => h) (Or.inl ⟨by rfl, ?_⟩) (by assumption) ?_
              rotate_left
              focus (intro w hSw; (try dsimp only at hSw); go_simp; try with_reducible rfl)
              try simp only [Act.put, List.setIfInBounds_toArray, List.set_cons_zero, List.set_cons_succ]
              refine wpAnyH_take (i := 12) (v := ?_) rfl (by kernel_rfl) (by kernel_rfl) (by kernel_rfl) (fun _ _ _ h => h) (Or.inl ⟨by rfl, ?_⟩) (by assumption) ?_
              rotate_left
              focus (intro w hSw; (try dsimp only at hSw); go_simp; try with_reducible rfl)
              try simp only [Act.put, List.setIfInBounds_toArray, List.set_cons_zero, List.set_cons_succ]
              refine wpAnyH_take (i := 13) (v := ?_) rfl (by kernel_rfl) (by kernel_rfl) (by kernel_rfl) (fun _ _ _ h => h) (Or.inl ⟨by rfl, ?_⟩) (by assumption) ?_
              rotate_left
              focus (intro w hSw; (try dsimp only at hSw); go_simp; try with_reducible rfl)
              try simp only [Act.put, List.setIfInBounds_toArray, List.set_cons_zero, List.set_cons_succ]
              refine wpAnyH_take (i := 14) (v := ?_) rfl (by kernel_rfl) (by kernel_rfl) (by kernel_rfl) (fun _ _ _ h => h) (Or.inl ⟨by rfl, ?_⟩) (by assumption) ?_
              rotate_left
              focus (intro w hSw; (try dsimp only at hSw); go_simp; try with_reducible rfl)
              try simp only [Act.put, List.setIfInBounds_toArray, List.set_cons_zero, List.set_cons_succ]
              refine wpAnyH_take (i := 15) (v := ?_) rfl (by kernel_rfl) (by kernel_rfl) (by kernel_rfl) (fun _ _ _ h => h) (Or.inl ⟨by rfl, ?_⟩) (by assumption) ?_
              rotate_left
              focus (intro w hSw; (try dsimp only at hSw); go_simp; try with_reducible rfl)
              try simp only [Act.put, List.setIfInBounds_toArray, List.set_cons_zero, List.set_cons_succ]
              refine wpAnyH_ready (rs := [1, 16]) (by kernel_rfl) (by simp) ?_
              refine AllReadyH.cons (i := 1) rfl (fun K hK => ?_) (AllReadyH.cons (i := 16) rfl (fun K hK => ?_) AllReadyH.nil)
              go_simp
              refine hK.out _ _ ?_ (fun hHeld => ?_)
              focus ((try dsimp only); first | with_reducible exact ⟨e0, e1, ez⟩ | with_reducible exact ⟨(cell_far _ _ _ _ zb).trans e0, (cell_far _ _ _ _ zb).trans e1, (cell_far _ _ _ _ cbb).trans ez⟩ | go_keep)
              clear hK K
              try simp only [Act.put, List.setIfInBounds_toArray, List.set_cons_zero, List.set_cons_succ]
              refine wpAnyH_ready (rs := [16]) (by kernel_rfl) (by simp) ?_
              refine AllReadyH.cons (i := 16) rfl (fun K hK => ?_) AllReadyH.nil
              go_simp
              refine hK.out _ _ ?_ (fun hHeld => ?_)
              focus ((try dsimp only); first | with_reducible exact ⟨e0, e1, ez⟩ | with_reducible exact ⟨(cell_far _ _ _ _ zb).trans e0, (cell_far _ _ _ _ zb).trans e1, (cell_far _ _ _ _ cbb).trans ez⟩ | go_keep)
              clear hK K
              try simp only [Act.put, List.setIfInBounds_toArray, List.set_cons_zero, List.set_cons_succ]
              refine wpAnyH_ready (rs := [17]) (by kernel_rfl) (by simp) ?_
              refine AllReadyH.cons (i := 17) rfl (fun K hK => ?_) AllReadyH.nil
              (refine step_append_lies _ (by rfl) (.tmp 77) (.tmp 92) 36 (by rfl) (b + 1) 106 j0 (.agg #[.int .i64 0, .int .i64 0, .int .i64 0, .int .i64 0]) 4 32 Tryd.underlying36 hj0 hy0 hy1 hy2 rfl (by decide) (.slice la3 n3 lcap3) n3 (slcs c i n3) (by simp [Act.eval]) (own_ext PR5.out.ol (by repeat (first | with_reducible exact Ext.refl _ | with_reducible refine Ext.drew ?_ | with_reducible refine Ext.drewN ?_ _ | with_reducible refine Ext.alloc ?_ _))) ⟨w5.heap.size, 0, none⟩ 1 1 [.int .i64 k, .int .i64 (nth c.cl k), .int .i64 (PP + at_), .int .i64 p2] (by simp [Act.eval]) rfl (fun j u hu => by first | exact NB1.out j u hu | exact NB2.out j u hu | fail) ONE4.out (by decide) (by unfold maxLen; omega) (by omega) (by simp; omega) (w5.heap.size + 1) (by simp) ?_; intro g' cap' w6 hown hgrow hat hltg; obtain ⟨r0, r1, r2, r3, r4, rf, re⟩ := PR5.out.grown PR5.out.ol (by repeat (first | with_reducible exact Ext.refl _ | with_reducible refine Ext.drew ?_ | with_reducible refine Ext.drewN ?_ _ | with_reducible refine Ext.alloc ?_ _)) hgrow; have xx := ((Ext.refl _).alloc _).trans re; obtain ⟨e0, e1, _⟩ := box6 xx; rw [hz] at e0 e1; have ez := (hx.trans xx).cell (HC.out k hlt); have rf0 := rf 0; have PR6 := Lib.hid (PR5.out.pushL (by repeat (first | with_reducible exact Ext.refl _ | with_reducible refine Ext.drew ?_ | with_reducible refine Ext.drewN ?_ _ | with_reducible refine Ext.alloc ?_ _)) hgrow (by rw [SLC.out]; exact hown)))
              refine hK.out _ _ ?_ (fun hHeld => ?_)
              focus ((try dsimp only); first | with_reducible exact ⟨e0, e1, ez⟩ | with_reducible exact ⟨(cell_far _ _ _ _ zb).trans e0, (cell_far _ _ _ _ zb).trans e1, (cell_far _ _ _ _ cbb).trans ez⟩ | go_keep)
              clear hK K
              try simp only [Act.put, List.setIfInBounds_toArray, List.set_cons_zero, List.set_cons_succ]
              refine wpAnyH_take (i := 18) (v := ?_) rfl (by kernel_rfl) (by kernel_rfl) (by kernel_rfl) (fun _ _ _ h => h) (Or.inl ⟨by rfl, ?_⟩) (by assumption) ?_
              rotate_left
              focus (intro w hSw; (try dsimp only at hSw); go_simp; try with_reducible rfl)
              try simp only [Act.put, List.setIfInBounds_toArray, List.set_cons_zero, List.set_cons_succ]
              refine wpAnyH_ready (rs := [19]) (by kernel_rfl) (by simp) ?_
              refine AllReadyH.cons (i := 19) rfl (fun K hK => ?_) AllReadyH.nil
              go_simp
              refine hK.out _ _ ?_ (fun hHeld => ?_)
              focus ((try dsimp only); first | with_reducible exact ⟨e0, e1, ez⟩ | with_reducible exact ⟨(cell_far _ _ _ _ zb).trans e0, (cell_far _ _ _ _ zb).trans e1, (cell_far _ _ _ _ cbb).trans ez⟩ | go_keep)
              clear hK K
              try simp only [Act.put, List.setIfInBounds_toArray, List.set_cons_zero, List.set_cons_succ]
              refine wpAnyH_done (by kernel_rfl) ?_ _
              rotate_left
              go_simp
              refine hK.out _ _ ?_ (fun hHeld => ?_)
              focus ((try dsimp only); first | with_reducible exact ⟨e0, e1, ez⟩ | with_reducible exact ⟨(cell_far _ _ _ _ zb).trans e0, (cell_far _ _ _ _ zb).trans e1, (cell_far _ _ _ _ cbb).trans ez⟩ | go_keep)
              clear hK K
              try simp only [Act.put, List.setIfInBounds_toArray, List.set_cons_zero, List.set_cons_succ]
              refine wpAnyH_ready (rs := [1]) (by kernel_rfl) (by simp) ?_
              refine AllReadyH.cons (i := 1) rfl (fun K hK => ?_) AllReadyH.nil
              go_simp
              refine hK.out _ _ ?_ (fun hHeld => ?_)
              focus ((try dsimp only); first | with_reducible exact ⟨e0, e1, ez⟩ | with_reducible exact ⟨(cell_far _ _ _ _ zb).trans e0, (cell_far _ _ _ _ zb).trans e1, (cell_far _ _ _ _ cbb).trans ez⟩ | go_keep)
              clear hK K
              try simp only [Act.put, List.setIfInBounds_toArray, List.set_cons_zero, List.set_cons_succ]
              refine wpAnyH_ready (rs := [17]) (by kernel_rfl) (by simp) ?_
              refine AllReadyH.cons (i := 17) rfl (fun K hK => ?_) AllReadyH.nil
              (refine step_append_lies _ (by rfl) (.tmp 77) (.tmp 92) 36 (by rfl) (b + 1) 106 j0 (.agg #[.int .i64 0, .int .i64 0, .int .i64 0, .int .i64 0]) 4 32 Tryd.underlying36 hj0 hy0 hy1 hy2 rfl (by decide) (.slice la3 n3 lcap3) n3 (slcs c i n3) (by simp [Act.eval]) (own_ext PR5.out.ol (by repeat (first | with_reducible exact Ext.refl _ | with_reducible refine Ext.drew ?_ | with_reducible refine Ext.drewN ?_ _ | with_reducible refine Ext.alloc ?_ _))) ⟨w5.heap.size, 0, none⟩ 1 1 [.int .i64 k, .int .i64 (nth c.cl k), .int .i64 (PP + at_), .int .i64 p2] (by simp [Act.eval]) rfl (fun j u hu => by first | exact NB1.out j u hu | exact NB2.out j u hu | fail) ONE4.out (by decide) (by unfold maxLen; omega) (by omega) (by simp; omega) (w5.heap.size + 1) (by simp) ?_; intro g' cap' w6 hown hgrow hat hltg; obtain ⟨r0, r1, r2, r3, r4, rf, re⟩ := PR5.out.grown PR5.out.ol (by repeat (first | with_reducible exact Ext.refl _ | with_reducible refine Ext.drew ?_ | with_reducible refine Ext.drewN ?_ _ | with_reducible refine Ext.alloc ?_ _)) hgrow; have xx := ((Ext.refl _).alloc _).trans re; obtain ⟨e0, e1, _⟩ := box6 xx; rw [hz] at e0 e1; have ez := (hx.trans xx).cell (HC.out k hlt); have rf0 := rf 0; have PR6 := Lib.hid (PR5.out.pushL (by repeat (first | with_reducible exact Ext.refl _ | with_reducible refine Ext.drew ?_ | with_reducible refine Ext.drewN ?_ _ | with_reducible refine Ext.alloc ?_ _)) hgrow (by rw [SLC.out]; exact hown)))
              refine hK.out _ _ ?_ (fun hHeld => ?_)
              focus ((try dsimp only); first | with_reducible exact ⟨e0, e1, ez⟩ | with_reducible exact ⟨(cell_far _ _ _ _ zb).trans e0, (cell_far _ _ _ _ zb).trans e1, (cell_far _ _ _ _ cbb).trans ez⟩ | go_keep)
              clear hK K
              try simp only [Act.put, List.setIfInBounds_toArray, List.set_cons_zero, List.set_cons_succ]
              refine wpAnyH_take (i := 18) (v := ?_) rfl (by kernel_rfl) (by kernel_rfl) (by kernel_rfl) (fun _ _ _ h => h) (Or.inl ⟨by rfl, ?_⟩) (by assumption) ?_
              rotate_left
              focus (intro w hSw; (try dsimp only at hSw); go_simp; try with_reducible rfl)
              try simp only [Act.put, List.setIfInBounds_toArray, List.set_cons_zero, List.set_cons_succ]
              refine wpAnyH_ready (rs := [19]) (by kernel_rfl) (by simp) ?_
              refine AllReadyH.cons (i := 19) rfl (fun K hK => ?_) AllReadyH.nil
              go_simp
              refine hK.out _ _ ?_ (fun hHeld => ?_)
              focus ((try dsimp only); first | with_reducible exact ⟨e0, e1, ez⟩ | with_reducible exact ⟨(cell_far _ _ _ _ zb).trans e0, (cell_far _ _ _ _ zb).trans e1, (cell_far _ _ _ _ cbb).trans ez⟩ | go_keep)
              clear hK K
              try simp only [Act.put, List.setIfInBounds_toArray, List.set_cons_zero, List.set_cons_succ]
              refine wpAnyH_done (by kernel_rfl) ?_ _
              rotate_left
              all_goals (refine NoPanic.normal ?_)
              all_goals
                have f0 := (cell_far w6 ⟨b, 0, none⟩ ⟨z, 0, none⟩ (.slice (some ⟨g', 0, none⟩) (n3 + 1) cap') zb).trans e0
                have f1 := (cell_far w6 ⟨b, 0, none⟩ ⟨cb, co + k, none⟩ (.slice (some ⟨g', 0, none⟩) (n3 + 1) cap') cbb).trans ez
                go_wp2_with fail
                go_roundw
                case rel => exact ⟨m + 1, n3 + 1, _, _, _, by omega, rfl, by have := ELF.out; unfold Hid; omega, by go_num, rfl, by unfold Hid; rw [EA.out, Int.natCast_add, Int.add_mul]; simp, by have := EN4.out; unfold Hid; omega, PR6⟩
                case measure => simp [intOf]; omega
            · obtain rfl : m = M := by omega
              have q2 := PR.out.c2
              have bl5 : b < wr.heap.size := cell_lt q2
              by_cases hL : 0 < L
              · have hper : (m : Int) = perOf c k := by have h1 := ONE.out; have h2 := ELF.out; omega
                have t1 : decide (0 < L) = true := by simpa using hL
                have t2 : decide (at_ + nth c.cl k ≤ c.page) = false := by
                  have := at_out (m := m) u1 HPE.out hper; rw [← EA.out] at this; simpa using this
                clear hL hper
                go_wp2_with fail
                refine wp_region_quiet_lit (by kernel_rfl) (by kernel_rfl) ?_
                repeat (any_goals (first | go_big_quiet_step (fail) | quiet_step (fail) | simp only [t1]))
                all_goals (refine wpQuiet_nil ?_; intro _ hw'; obtain ⟨nq, hw''⟩ := hw'; subst hw'')
                clear b0 b1 b2 b3 b4 b5 zk ww
                go_wp2_with (at_builtin; refine wpList_append_lies _ rfl (.tmp 100) (.tmp 102) 22 rfl (b + 1) 3 i0 (.int .i64 0) 1 8 Tryd.underlying22 hi0 hz0 hz1 hz2 rfl (by decide) mv p2 (ncs .i64 (manys c i p2)) rfl (own_ext PR.out.om (by repeat (first | with_reducible exact Ext.refl _ | with_reducible refine Ext.drew ?_ | with_reducible refine Ext.drewN ?_ _ | with_reducible refine Ext.alloc ?_ _))) ⟨wr.heap.size, 0, none⟩ 1 1 [.int .i64 m] rfl rfl (newsb9 _ _ (by simp)) (one1 rfl) (by decide) (by unfold maxLen; omega) (by omega) (by simp; omega) (wr.heap.size + 1) (by simp) ?_; intro g7 cap7 w7 hown hgrow hat hlt7; obtain ⟨g0, g1, g2, g3, g4, gf, ge⟩ := PR.out.grown PR.out.om (by repeat (first | with_reducible exact Ext.refl _ | with_reducible refine Ext.drew ?_ | with_reducible refine Ext.drewN ?_ _ | with_reducible refine Ext.alloc ?_ _)) hgrow; have gf2 := gf 2; have PR7 := Lib.hid (PR.out.pushM (by repeat (first | with_reducible exact Ext.refl _ | with_reducible refine Ext.drew ?_ | with_reducible refine Ext.drewN ?_ _ | with_reducible refine Ext.alloc ?_ _)) hgrow (by rw [F2.out, ← ncs_snoc]; exact hown) (by rw [show ((wr.drewN nq).alloc (.cells #[.int .i64 m] 3)).heap.size = wr.heap.size + 1 by simp]; exact own_at hat)); clear hown hgrow hat hlt7 gf)
                go_roundw
                case rel => exact ⟨d + 1, n3, p2 + 1, L, lv, _, _, by have := DP.out; omega, rfl, by have h1 := NX.out; have h2 := ELF.out; unfold Hid; omega, by have h1 := EN4.out; have h2 := EN3.out; have h3 := ELF.out; have h4 := HLF.out; unfold Hid; omega, by have h1 := EP2.out; unfold Hid; omega, PR7⟩
                case measure => have h2 := ELF.out; simp [intOf]; omega
              · have t1 : decide (0 < L) = false := by simpa using hL
                clear hL
                go_wp2_with fail
                refine wp_region_quiet_lit (by kernel_rfl) (by kernel_rfl) ?_
                repeat (any_goals (first | go_big_quiet_step (fail) | quiet_step (fail) | simp only [t1]))
                all_goals (refine wpQuiet_nil ?_; intro _ hw'; obtain ⟨nq, hw''⟩ := hw'; subst hw'')
                clear b0 b1 b2 b3 b4 b5 zk ww
                go_wp2_with (at_builtin; refine wpList_append_lies _ rfl (.tmp 100) (.tmp 102) 22 rfl (b + 1) 3 i0 (.int .i64 0) 1 8 Tryd.underlying22 hi0 hz0 hz1 hz2 rfl (by decide) mv p2 (ncs .i64 (manys c i p2)) rfl (own_ext PR.out.om (by repeat (first | with_reducible exact Ext.refl _ | with_reducible refine Ext.drew ?_ | with_reducible refine Ext.drewN ?_ _ | with_reducible refine Ext.alloc ?_ _))) ⟨wr.heap.size, 0, none⟩ 1 1 [.int .i64 m] rfl rfl (newsb9 _ _ (by simp)) (one1 rfl) (by decide) (by unfold maxLen; omega) (by omega) (by simp; omega) (wr.heap.size + 1) (by simp) ?_; intro g7 cap7 w7 hown hgrow hat hlt7; obtain ⟨g0, g1, g2, g3, g4, gf, ge⟩ := PR.out.grown PR.out.om (by repeat (first | with_reducible exact Ext.refl _ | with_reducible refine Ext.drew ?_ | with_reducible refine Ext.drewN ?_ _ | with_reducible refine Ext.alloc ?_ _)) hgrow; have gf2 := gf 2; have PR7 := Lib.hid (PR.out.pushM (by repeat (first | with_reducible exact Ext.refl _ | with_reducible refine Ext.drew ?_ | with_reducible refine Ext.drewN ?_ _ | with_reducible refine Ext.alloc ?_ _)) hgrow (by rw [F2.out, ← ncs_snoc]; exact hown) (by rw [show ((wr.drewN nq).alloc (.cells #[.int .i64 m] 3)).heap.size = wr.heap.size + 1 by simp]; exact own_at hat)); clear hown hgrow hat hlt7 gf)
                go_roundw
                case rel => exact ⟨d + 1, n3, p2 + 1, L, lv, _, _, by have := DP.out; omega, rfl, by have h1 := NX.out; have h2 := ELF.out; unfold Hid; omega, by have h1 := EN4.out; have h2 := EN3.out; have h3 := ELF.out; have h4 := HLF.out; unfold Hid; omega, by have h1 := EP2.out; unfold Hid; omega, PR7⟩
                case measure => have h2 := ELF.out; simp [intOf]; omega
        · have hlf0 : lf = 0 := by
            have := EL.out
            unfold leftM at this
            split at this <;> omega
          have hend : (d : Int) = pagesOf c i k := pages_all HO.out hi hlt hd (by
            intro h
            have := EL.out
            unfold leftM at this
            rw [if_pos h] at this
            omega)
          have EN5 : Hid ((n2 : Int) = sS c i (k + 1)) := Lib.hid (by have h1 := EN2.out; have h2 := SS.out; omega)
          have EP5 : Hid ((p2 : Int) = sG c i (k + 1)) := Lib.hid (by have h1 := EP2.out; have h2 := SG.out; omega)
          clear hend EL EN2
          subst hlf0
          go_wp2_with fail
          go_roundw
          case rel => exact ⟨k + 1, n2, p2, lv, fv, mv, by omega, by go_num, EN5, EP5, PR⟩
          case measure => simp [intOf]; omega
    · obtain rfl : k = c.cl.length := by omega
      obtain rfl : n = nS c i := by have h1 := EN.out; have h2 := HO.out.nS_eq hi; omega
      obtain rfl : p = nG c i := by have h1 := EP.out; have h2 := HO.out.nG_eq hi; omega
      have xw := hx.trans (((Ext.refl _).alloc _).trans PR.out.ext)
      obtain ⟨lb, lc, fb, fc, mb, mc, rfl, rfl, rfl, hp, bl, bf, bm⟩ := PR.out.plan HO.out hi (H.out.cl.ext xw)
      have HPL := Lib.hid hp
      have q0 := PR.out.c0; have q1 := PR.out.c1; have q2 := PR.out.c2; have q3 := PR.out.c3; have q4 := PR.out.c4
      have r0 := PR.out.ext.cell (BR.out 0 _ rfl); have r1 := PR.out.ext.cell (BR.out 1 _ rfl); have r2 := PR.out.ext.cell (BR.out 2 _ rfl); have r3 := PR.out.ext.cell (BR.out 3 _ rfl); have r4 := PR.out.ext.cell (BR.out 4 _ rfl)
      have rf : ∀ o, wr.frozen? ⟨z + 1, o, none⟩ = false := fun o => by rw [PR.out.ext.frozen (p := ⟨z + 1, o, none⟩) (by simp [hz])]; exact FR.out o
      have f0 := rf 0; have f1 := rf 1; have f2 := rf 2; have f3 := rf 3; have f4 := rf 4
      have XW := Lib.hid xw
      clear hp xw rf
      go_wp2_with fail
      have s0 := set_same (w := wr) (u := .slice (some ⟨lb, 0, none⟩) (nS c i) lc) r0
      have s1 := set_same (w := (wr.setCell ⟨z + 1, 0, none⟩ (.slice (some ⟨lb, 0, none⟩) (nS c i) lc))) (u := .slice (some ⟨fb, 0, none⟩) (nG c i) fc) (set_oth (by decide) r1)
      have s2 := set_same (w := ((wr.setCell ⟨z + 1, 0, none⟩ (.slice (some ⟨lb, 0, none⟩) (nS c i) lc)).setCell ⟨z + 1, 1, none⟩ (.slice (some ⟨fb, 0, none⟩) (nG c i) fc))) (u := .slice (some ⟨mb, 0, none⟩) (nG c i) mc) (set_oth (by decide) (set_oth (by decide) r2))
      have s3 := set_same (w := (((wr.setCell ⟨z + 1, 0, none⟩ (.slice (some ⟨lb, 0, none⟩) (nS c i) lc)).setCell ⟨z + 1, 1, none⟩ (.slice (some ⟨fb, 0, none⟩) (nG c i) fc)).setCell ⟨z + 1, 2, none⟩ (.slice (some ⟨mb, 0, none⟩) (nG c i) mc))) (u := .int .i64 wo) (set_oth (by decide) (set_oth (by decide) (set_oth (by decide) r3)))
      have s4 := set_same (w := ((((wr.setCell ⟨z + 1, 0, none⟩ (.slice (some ⟨lb, 0, none⟩) (nS c i) lc)).setCell ⟨z + 1, 1, none⟩ (.slice (some ⟨fb, 0, none⟩) (nG c i) fc)).setCell ⟨z + 1, 2, none⟩ (.slice (some ⟨mb, 0, none⟩) (nG c i) mc)).setCell ⟨z + 1, 3, none⟩ (.int .i64 wo))) (u := .slice (some ⟨cb, co, none⟩) c.cl.length cc) (set_oth (by decide) (set_oth (by decide) (set_oth (by decide) (set_oth (by decide) r4))))
      have HWV := HWO.out
      refine bodyPost_ret (v := .tuple #[dpv lb lc fb fc mb mc (some ⟨cb, co, none⟩) cc c i, .int .i64 0]) (by simp [results, Tryd.results20, go_sem, s0, s1, s2, s3, s4, dpv, HWV]) rfl ⟨lb, lc, fb, fc, mb, mc, rfl, ?_, ?_⟩
      · have zl : z + 1 < b := by have := PR.out.lo; simp [hz] at this; omega
        have cl : cb < z := by have := cell_lt (HC.out 0 (by omega)); dsimp only at this; omega
        have nk : ∀ (b' o' : Nat), (some (⟨cb, co, none⟩ : Addr)) = some ⟨b', o', none⟩ → b' ≠ z + 1 := fun b' o' e => by cases e; omega
        have far := fun {W : World} {o : Nat} {u : Value} (h : DPlan W lb fb mb (some ⟨cb, co, none⟩) c i) => h.far (x := z + 1) (o := o) (u := u) (by omega) (by omega) (by omega) nk
        exact far (far (far (far (far HPL.out))))
      · have e1 : w.heap.size ≤ z + 1 := by omega
        exact ((((XW.out.setCell (p := ⟨z + 1, 0, none⟩) e1 _).setCell (p := ⟨z + 1, 1, none⟩) e1 _).setCell (p := ⟨z + 1, 2, none⟩) e1 _).setCell (p := ⟨z + 1, 3, none⟩) e1 _).setCell (p := ⟨z + 1, 4, none⟩) e1 _
theorem ref09_New {ca ta : Option Addr} {cc tc : Nat} (c : Conf) (i : Nat) {w : World} (hk0 : kcheck c = 0) (hi : i < c.ts.length) (h : CfgAt w ca ta cc tc c) :
    Calls Tryd.prog 20 #[.agg #[.slice ca c.cl.length cc, .int .i64 c.page, .slice ta c.ts.length tc, .int .i64 c.wk, .int .i64 c.gr, .int .i64 c.gens], .int .i64 i] w (DocNew c i w) :=
  (ref09_NewC c i hk0 hi h).mono (by rintro e w' ⟨lb, lc, fb, fc, mb, mc, h1, h2, h3⟩; exact ⟨lb, lc, fb, fc, mb, mc, ca, cc, h1, h2, h3⟩)

end Go.Proofs.YtnbngcagnchkdaaDoor
