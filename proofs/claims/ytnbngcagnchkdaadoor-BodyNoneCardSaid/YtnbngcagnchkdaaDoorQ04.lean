/-
  Merged texts: SlotA, SlotB, SlotC, SlotD, NextU, SlotE, SlotF, SlotQ, SlotT.
-/
import Derived.Test.YtnbngcagnchkdaaDoorQ03
import Derived.Test.YtnbngcagnchkdaaDoorQ01
import Derived.Test.YtnbngcagnchkdaaDoorQ02
import Derived.Deep.RegionHeld3
import Derived.Shelf.Abstract
import Derived.WalkKit
import Derived.RangeFuncNested
import Derived.RangeFuncBound
import Derived.RangeFuncCalls
import Derived.RangeFuncLeaves
import Derived.Shelf.RegionOpen
import Derived.OwnWalkIn
import Derived.TacticsInMore
import Derived.LoopNIn
import Derived.LoopIn
import Derived.Stop.RegionWithIn
set_option linter.unusedVariables false
set_option linter.unusedSimpArgs false
/-! A plan's shape in the memory; what only reads it. -/
namespace Go.Proofs.YtnbngcagnchkdaaDoor
open Go.RowKit

/-- A part as cells; parts. -/
def pc5 (x : Part) : List Value := [.int .i64 x.size, .int .i64 x.first, .int .i64 x.many, .int .i64 x.page, .int .i64 x.per]
def pcs (c : Conf) (t : Nat) : Nat → List Value
  | 0 => []
  | k + 1 => pcs c t k ++ pc5 (partOf c t k)
theorem pcs_len (c : Conf) (t : Nat) : ∀ k, (pcs c t k).length = k * 5
  | 0 => rfl
  | k + 1 => by show (pcs c t k ++ pc5 (partOf c t k)).length = _; rw [List.length_append, pcs_len c t k]; simp [pc5]; omega
theorem pcs_at (c : Conf) (t : Nat) : ∀ k i j, i < k → j < 5 → (pcs c t k)[i * 5 + j]? = (pc5 (partOf c t i))[j]?
  | 0, i, j, hi, _ => absurd hi (Nat.not_lt_zero _)
  | k + 1, i, j, hi, hj => by
    show (pcs c t k ++ pc5 (partOf c t k))[i * 5 + j]? = _
    by_cases e : i < k
    · rw [List.getElem?_append_left (by rw [pcs_len]; omega)]; exact pcs_at c t k i j e hj
    · obtain rfl : i = k := by omega
      rw [List.getElem?_append_right (by rw [pcs_len]; omega), pcs_len, show i * 5 + j - i * 5 = j by omega]
theorem pc5_one (x : Part) : ∀ u ∈ pc5 x, u.oneCell' = true := by
  intro u hu
  simp only [pc5, List.mem_cons, List.not_mem_nil, or_false] at hu
  rcases hu with rfl | rfl | rfl | rfl | rfl <;> rfl

/-- A plan of tenant t of c: its box b, its parts' block gp. -/
structure PlanAt (w : World) (b gp : Nat) (c : Conf) (t : Nat) : Prop where
  ok : KOk c
  ti : t < c.ts.length
  parts : ∃ cap, w.cell? ⟨b, 0, none⟩ = some (.slice (some ⟨gp, 0, none⟩) c.cl.length cap)
  slots : w.cell? ⟨b, 1, none⟩ = some (.int .i64 (sS c t c.cl.length))
  pages : w.cell? ⟨b, 2, none⟩ = some (.int .i64 (sG c t c.cl.length))
  page : w.cell? ⟨b, 3, none⟩ = some (.int .i64 c.page)
  row : ∀ i, i < c.cl.length → ∀ j u, (pc5 (partOf c t i))[j]? = some u → w.cell? ⟨gp, i * 5 + j, none⟩ = some u
theorem PlanAt.ext {w w' : World} {b gp : Nat} {c : Conf} {t : Nat} (h : PlanAt w b gp c t) (hx : Ext w w') : PlanAt w' b gp c t := by
  obtain ⟨cap, h0⟩ := h.parts
  exact ⟨h.ok, h.ti, ⟨cap, hx.cell h0⟩, hx.cell h.slots, hx.cell h.pages, hx.cell h.page, fun i hi j u hu => hx.cell (h.row i hi j u hu)⟩
theorem PlanAt.cells {w : World} {b gp : Nat} {c : Conf} {t : Nat} (h : PlanAt w b gp c t) {i : Nat} (hi : i < c.cl.length) :
    w.cell? ⟨gp, i * 5, none⟩ = some (.int .i64 (nth c.cl i)) ∧ w.cell? ⟨gp, i * 5 + 1, none⟩ = some (.int .i64 (sS c t i)) ∧ w.cell? ⟨gp, i * 5 + 2, none⟩ = some (.int .i64 (slotsOf c t i)) ∧
    w.cell? ⟨gp, i * 5 + 3, none⟩ = some (.int .i64 (sG c t i)) ∧ w.cell? ⟨gp, i * 5 + 4, none⟩ = some (.int .i64 (perOf c i)) :=
  ⟨h.row i hi 0 _ rfl, h.row i hi 1 _ rfl, h.row i hi 2 _ rfl, h.row i hi 3 _ rfl, h.row i hi 4 _ rfl⟩

theorem PlanAt.pg2 {w : World} {b gp : Nat} {c : Conf} {t : Nat} (h : PlanAt w b gp c t) : 2 ≤ c.page ∧ c.page ≤ 64 := by
  have bd := h.ok.bounds h.ti (k := 0) h.ok.cl.pos
  have := bd.c2; have := bd.cpage; have := bd.p64; omega

set_option maxHeartbeats 1000000 in
theorem slot_none {b gp : Nat} {c : Conf} {t : Nat} {w : World} (h : PlanAt w b gp c t) : Calls Tryd.prog 55 #[.pointer (some ⟨b, 0, none⟩)] w fun e w' => e = .returned (.bool false) ∧ w = w' := by
  have h3 := h.page
  have hp := h.pg2.1
  have t0 : (c.page == 0) = false := by simp; omega
  go_enter Tryd.func55, Tryd.ntmps55
  go_wp2_with fail
  go_ret
  exact ⟨rfl, rfl⟩
set_option maxHeartbeats 1000000 in
theorem slot_Slots {b gp : Nat} {c : Conf} {t : Nat} {w : World} (h : PlanAt w b gp c t) : Calls Tryd.prog 29 #[.pointer (some ⟨b, 0, none⟩)] w fun e w' => e = .returned (.int .i64 (sS c t c.cl.length)) ∧ w = w' := by
  have h1 := h.slots
  have H := Lib.hid h; clear h
  go_enter Tryd.func29, Tryd.ntmps29
  go_wp2_with fail
  refine (slot_none H.out).mono ?_
  rintro e w1000 ⟨rfl, rfl⟩
  go_wp2_with fail
  go_ret
  exact ⟨rfl, rfl⟩
theorem mul_bd {a b : Int} {A B : Int} (h0 : 0 ≤ a) (h1 : a ≤ A) (h2 : 0 ≤ b) (h3 : b ≤ B) : 0 ≤ a * b ∧ a * b ≤ A * B := by
  refine ⟨Int.mul_nonneg h0 h2, ?_⟩
  have h4 := Int.mul_le_mul_of_nonneg_right (c := b) h1 h2
  have h5 := Int.mul_le_mul_of_nonneg_left (c := A) h3 (Int.le_trans h0 h1)
  omega
set_option maxHeartbeats 1000000 in
theorem slot_Words {b gp : Nat} {c : Conf} {t : Nat} {w : World} (h : PlanAt w b gp c t) : Calls Tryd.prog 30 #[.pointer (some ⟨b, 0, none⟩)] w fun e w' => e = .returned (.int .i64 (sG c t c.cl.length * c.page)) ∧ Ext w w' := by
  have h1 := h.pages; have h2 := h.page
  have g := h.ok.sG_le h.ti (Nat.le_refl _)
  have m8 := h.ok.cl.most
  have p := h.pg2
  have mb := mul_bd (a := sG c t c.cl.length) (b := c.page) (A := 16384) (B := 64) (by omega) (by omega) (by omega) p.2
  obtain ⟨mb0, mb1⟩ := mb
  have H := Lib.hid h
  clear h g p
  generalize sG c t c.cl.length = G at *
  generalize hP : G * c.page = Q at *
  generalize c.page = pg at *
  have HQ := Lib.hid hP
  have hQ := hP
  go_enter Tryd.func30, Tryd.ntmps30
  go_wp2_with fail
  refine (slot_none H.out).mono ?_
  rintro e w1000 ⟨rfl, rfl⟩
  go_wp2_with fail
  go_quiet (fail)
  go_wp2_with fail
  go_ret
  exact ⟨rfl, (Ext.refl _).drewN _⟩
end Go.Proofs.YtnbngcagnchkdaaDoor

/-! slot: last, find, Class, Size, Page, Addr, in, In. -/
namespace Go.Proofs.YtnbngcagnchkdaaDoor
open Go.RowKit Go.Shelf

/-- A part as a value. -/
def pv5 (x : Part) : Value := .agg #[.int .i64 x.size, .int .i64 x.first, .int .i64 x.many, .int .i64 x.page, .int .i64 x.per]
/-- The function value g answers r of the part x, wherever memory has gone on from w. -/
def AnswersP (P : Program) (g : Nat) (cs : Array Value) (x : Part) (r : Bool) (w : World) : Prop :=
  ∀ w', Ext w w' → Calls P g (#[pv5 x] ++ cs) w' fun e w'' => e = .returned (.bool r) ∧ Ext w' w''

theorem slot_find1 (x : Part) (s : Int) (r : Bool) (p : Addr) {w : World} (hs : w.cell? p = some (.int .i64 s)) (hr : decide (x.first ≤ s) = r) :
    Calls Tryd.prog 93 #[pv5 x, .pointer (some p)] w fun e w' => e = .returned (.bool r) ∧ Ext w w' := by
  unfold pv5
  have HR := Lib.hid hr
  have hl : p.block < w.heap.size := cell_lt hs
  have hs2 : (w.alloc (.cells #[.int .i64 x.size, .int .i64 x.first, .int .i64 x.many, .int .i64 x.page, .int .i64 x.per] 87)).cell? p = some (.int .i64 s) := cell_alloc hs _
  clear hr
  go_enter Tryd.func93, Tryd.ntmps93
  go_wp2_with fail
  go_ret
  exact ⟨ret_bool HR.out, (Ext.refl w).alloc _⟩
set_option maxHeartbeats 4000000 in
theorem slot_last1 {b gp so pb i : Nat} {c : Conf} {t : Nat} (g : Nat) (cs : Array Value) (r : Bool) {w : World} (h : PlanAt w b gp c t) (hi : i < c.cl.length) (hs : w.cell? ⟨so, 0, none⟩ = some (.func (.func g) #[] cs)) (hp : w.cell? ⟨pb, 0, none⟩ = some (.pointer (some ⟨b, 0, none⟩)))
    (ha : AnswersP Tryd.prog g cs (partOf c t i) r w) (hk : Enters Tryd.prog g) :
    Calls Tryd.prog 100 #[.int .i64 i, .pointer (some ⟨so, 0, none⟩), .pointer (some ⟨pb, 0, none⟩)] w fun e w' => e = .returned (.bool (!r)) ∧ Ext w w' := by
  unfold Enters at hk
  have HA := Lib.hid ha
  obtain ⟨cap, h0⟩ := h.parts
  obtain ⟨r0, r1, r2, r3, r4⟩ := h.cells hi
  have m8 := h.ok.cl.most
  have hi0 : (0 : Int) ≤ (i : Int) := Int.natCast_nonneg _
  have hi1 : (i : Int) < (c.cl.length : Int) := by omega
  have hd : Ext w w.drew := (Ext.refl w).drew
  clear ha h
  go_enter Tryd.func100, Tryd.ntmps100
  go_wp2_with fail
  go_region_held3 (fun w' => w'.cell? ⟨so, 0, none⟩ = some (.func (.func g) #[] cs) ∧ w'.cell? ⟨pb, 0, none⟩ = some (.pointer (some ⟨b, 0, none⟩)) ∧ w'.cell? ⟨b, 0, none⟩ = some (.slice (some ⟨gp, 0, none⟩) c.cl.length cap) ∧ w'.cell? ⟨gp, i * 5, none⟩ = some (.int .i64 (nth c.cl i)) ∧ w'.cell? ⟨gp, i * 5 + 1, none⟩ = some (.int .i64 (sS c t i)) ∧ w'.cell? ⟨gp, i * 5 + 2, none⟩ = some (.int .i64 (slotsOf c t i)) ∧ w'.cell? ⟨gp, i * 5 + 3, none⟩ = some (.int .i64 (sG c t i)) ∧ w'.cell? ⟨gp, i * 5 + 4, none⟩ = some (.int .i64 (perOf c i)))
    ((first | go_keep | (go_split_ands; exact ⟨hE.cell (by assumption), hE.cell (by assumption), hE.cell (by assumption), hE.cell (by assumption), hE.cell (by assumption), hE.cell (by assumption), hE.cell (by assumption), hE.cell (by assumption)⟩)))
    ((go_at_fn g; refine (HA.out _ hd).mono ?_; rintro e w1 ⟨rfl, hE⟩))
  all_goals
    go_wp2_with fail
    go_ret
    exact ⟨rfl, hd.trans hE⟩

theorem enters_last1 : Enters Tryd.prog 100 := Enters.mk Tryd.func100 (by kernel_rfl) rfl
theorem enters_find1 : Enters Tryd.prog 93 := Enters.mk Tryd.func93 (by kernel_rfl) rfl
set_option maxHeartbeats 4000000 in
theorem slot_last {b gp K : Nat} {c : Conf} {t : Nat} (g : Nat) (cs : Array Value) {w : World} (h : PlanAt w b gp c t) (hK : K < c.cl.length)
    (ha : ∀ i, i < c.cl.length → AnswersP Tryd.prog g cs (partOf c t i) (decide (i ≤ K)) w) (hk : Enters Tryd.prog g) :
    Calls Tryd.prog 92 #[.pointer (some ⟨b, 0, none⟩), .func (.func g) #[] cs] w fun e w' => e = .returned (.int .i64 K) ∧ Ext w w' := by
  have HA := Lib.hid ha; have HK := Lib.hid hk
  obtain ⟨cap, h0⟩ := h.parts
  have H := Lib.hid h
  have m8 := h.ok.cl.most
  have hb : b < w.heap.size := cell_lt h0
  clear ha h hk
  go_enter Tryd.func92, Tryd.ntmps92
  go_wp2_with fail
  refine (sort_Search 100 #[.pointer (some ⟨w.heap.size + 1, 0, none⟩), .pointer (some ⟨w.heap.size, 0, none⟩)] c.cl.length (K + 1) (fun i => decide (K < i)) _ (by omega) (fun i w' hi hx => ?_) (by omega) (fun i hi => by simp; omega) (fun i hi _ => by simp; omega) enters_last1).mono ?_
  · have hxw : Ext w w' := Ext.trans (((Ext.refl w).alloc _).alloc _) hx
    refine (slot_last1 g cs (decide (i ≤ K)) (H.out.ext hxw) hi (hx.cell (by simp)) (hx.cell (by simp)) (fun w'' hx'' => HA.out i hi w'' (hxw.trans hx'')) HK.out).mono ?_
    rintro e w1 ⟨rfl, hE⟩
    exact ⟨ret_bool (by by_cases hc : i ≤ K <;> simp [hc] <;> omega), hE⟩
  · rintro e w1 ⟨rfl, x⟩
    go_wp2_with fail
    go_ret
    exact ⟨rfl, Ext.trans (((Ext.refl w).alloc _).alloc _) x⟩

set_option maxHeartbeats 4000000 in
theorem slot_find {b gp k : Nat} {c : Conf} {t : Nat} {s : Int} (a : Int) {w : World} (h : PlanAt w b gp c t) (hk : AtClass c t s k) (ha : s - sS c t k = a) :
    Calls Tryd.prog 82 #[.pointer (some ⟨b, 0, none⟩), .int .i64 s] w fun e w' => e = .returned (.tuple #[.int .i64 k, .int .i64 a, .int .i64 0]) ∧ Ext w w' := by
  obtain ⟨cap, h0⟩ := h.parts
  have h1 := h.slots
  have H := Lib.hid h
  have m8 := h.ok.cl.most
  have hb : b < w.heap.size := cell_lt h0
  have kl := hk.lt
  have lo := hk.lo
  have sl := h.ok.sS_le h.ti (Nat.le_of_lt hk.lt)
  have sn := h.ok.sS_le h.ti (Nat.le_refl _)
  have up := sumTo_lt (f := slotsOf c t) (n := c.cl.length) (a := k + 1) (b := c.cl.length) (h.ok.slots1 h.ti) (by omega) (Nat.le_refl _)
  have hi := hk.hi
  have up2 : sS c t (k + 1) ≤ sS c t c.cl.length := by unfold sS; omega
  have t0 : decide (s < 0) = false := by simp; omega
  have t1 : decide (sS c t c.cl.length ≤ s) = false := by simp; omega
  have HS := Lib.hid (h.ok.S_side h.ti hk)
  have HA := Lib.hid ha
  have s0 : 0 ≤ s := by omega
  have s1 : s ≤ 16384 := by omega
  clear up hi up2 h hk ha
  go_enter Tryd.func82, Tryd.ntmps82
  go_wp2_with fail
  refine (slot_none (H.out.ext ((Ext.refl _).alloc _))).mono ?_
  rintro e w1 ⟨rfl, rfl⟩
  go_wp2_with fail
  go_quiet (fail)
  go_wp2_with fail
  have hc : ∀ nq, ((w.alloc (.cells #[.int .i64 s] 3)).drewN nq).cell? ⟨w.heap.size, 0, none⟩ = some (.int .i64 s) := fun nq => ((Ext.refl _).drewN nq).cell (cell_newN w _ _ 0)
  have X0 := ((Ext.refl w).alloc (.cells #[.int .i64 s] 3)).drewN nq
  replace hc := hc nq
  generalize (w.alloc (.cells #[.int .i64 s] 3)).drewN nq = w2 at *
  refine (slot_last (K := k) 93 #[.pointer (some ⟨w.heap.size, 0, none⟩)] (H.out.ext X0) kl (fun i hi w' hx => slot_find1 (partOf c t i) s (decide (i ≤ k)) ⟨w.heap.size, 0, none⟩ (hx.cell hc) (HS.out i hi)) enters_find1).mono ?_
  rintro e w3 ⟨rfl, x3⟩
  have hc3 := x3.cell hc
  have X3 := X0.trans x3
  have c0 := X3.cell h0
  obtain ⟨_, r1, _, _, _⟩ := (H.out.ext X3).cells kl
  have k0 : (0 : Int) ≤ (k : Int) := Int.natCast_nonneg _
  have k1 : (k : Int) < (c.cl.length : Int) := by omega
  obtain ⟨sl0, sl1⟩ := sl
  clear hc X0 x3
  generalize sS c t k = S at *
  go_wp2_with fail
  go_quiet (fail)
  go_wp2_with fail
  go_ret3
  exact ⟨by rw [← HA.out]; rfl, X3.drewN _⟩
set_option maxHeartbeats 4000000 in
theorem slot_find_no {b gp : Nat} {c : Conf} {t : Nat} {s : Int} {w : World} (h : PlanAt w b gp c t) (hk : s < 0 ∨ sS c t c.cl.length ≤ s) :
    Calls Tryd.prog 82 #[.pointer (some ⟨b, 0, none⟩), .int .i64 s] w fun e w' => e = .returned (.tuple #[.int .i64 0, .int .i64 0, .int .i64 2]) ∧ Ext w w' := by
  have h1 := h.slots
  have H := Lib.hid h
  have hb : b < w.heap.size := cell_lt h1
  have sn := h.ok.sS_le h.ti (Nat.le_refl _)
  clear h
  by_cases h0 : s < 0
  · have t0 : decide (s < 0) = true := by simp; omega
    clear hk
    go_enter Tryd.func82, Tryd.ntmps82
    go_wp2_with fail
    refine (slot_none (H.out.ext ((Ext.refl _).alloc _))).mono ?_
    rintro e w1 ⟨rfl, rfl⟩
    go_wp2_with fail
    go_quiet (fail)
    go_wp2_with fail
    go_ret3
    exact ⟨rfl, ((Ext.refl _).alloc _).drewN _⟩
  · have t0 : decide (s < 0) = false := by simp; omega
    have t1 : decide (sS c t c.cl.length ≤ s) = true := by simp; omega
    have s0 : 0 ≤ s := by omega
    clear hk
    go_enter Tryd.func82, Tryd.ntmps82
    go_wp2_with fail
    refine (slot_none (H.out.ext ((Ext.refl _).alloc _))).mono ?_
    rintro e w1 ⟨rfl, rfl⟩
    go_wp2_with fail
    go_quiet (fail)
    go_wp2_with fail
    go_ret3
    exact ⟨rfl, ((Ext.refl _).alloc _).drewN _⟩

theorem slot_Class {b gp k : Nat} {c : Conf} {t : Nat} {s : Int} {w : World} (h : PlanAt w b gp c t) (hk : AtClass c t s k) :
    Calls Tryd.prog 64 #[.pointer (some ⟨b, 0, none⟩), .int .i64 s] w fun e w' => e = .returned (.tuple #[.int .i64 k, .int .i64 0]) ∧ Ext w w' := by
  have H := Lib.hid h; have HK := Lib.hid hk
  clear h hk
  go_enter Tryd.func64, Tryd.ntmps64
  go_wp2_with fail
  refine (slot_find _ H.out HK.out rfl).mono ?_
  rintro e w1 ⟨rfl, x⟩
  go_wp2_with fail
  go_ret2
  exact ⟨rfl, x⟩
theorem slot_Class_no {b gp : Nat} {c : Conf} {t : Nat} {s : Int} {w : World} (h : PlanAt w b gp c t) (hk : s < 0 ∨ sS c t c.cl.length ≤ s) :
    Calls Tryd.prog 64 #[.pointer (some ⟨b, 0, none⟩), .int .i64 s] w fun e w' => e = .returned (.tuple #[.int .i64 0, .int .i64 2]) ∧ Ext w w' := by
  have H := Lib.hid h; have HK := Lib.hid hk
  clear h hk
  go_enter Tryd.func64, Tryd.ntmps64
  go_wp2_with fail
  refine (slot_find_no H.out HK.out).mono ?_
  rintro e w1 ⟨rfl, x⟩
  go_wp2_with fail
  go_ret2
  exact ⟨rfl, x⟩

set_option maxHeartbeats 4000000 in
theorem slot_Size {b gp k : Nat} {c : Conf} {t : Nat} {s : Int} {w : World} (h : PlanAt w b gp c t) (hk : AtClass c t s k) :
    Calls Tryd.prog 58 #[.pointer (some ⟨b, 0, none⟩), .int .i64 s] w fun e w' => e = .returned (.tuple #[.int .i64 (nth c.cl k), .int .i64 0]) ∧ Ext w w' := by
  have H := Lib.hid h; have HK := Lib.hid hk
  have m8 := h.ok.cl.most
  have kl := hk.lt
  have k0 : (0 : Int) ≤ (k : Int) := Int.natCast_nonneg _
  have k1 : (k : Int) < (c.cl.length : Int) := by omega
  clear h hk
  go_enter Tryd.func58, Tryd.ntmps58
  go_wp2_with fail
  refine (slot_find _ H.out HK.out rfl).mono ?_
  rintro e w1 ⟨rfl, x⟩
  obtain ⟨cap, h0⟩ := (H.out.ext x).parts
  obtain ⟨r0, _, _, _, _⟩ := (H.out.ext x).cells kl
  go_wp2_with fail
  go_ret2
  exact ⟨rfl, x⟩

/-- Where a slot lies: the which of its class it is; its page; its address. -/
def atOf (c : Conf) (t : Nat) (s : Int) (k : Nat) : Int := s - sS c t k
def pageOf (c : Conf) (t : Nat) (s : Int) (k : Nat) : Int := sG c t k + atOf c t s k / perOf c k
def addrOf (c : Conf) (t : Nat) (s : Int) (k : Nat) : Int := pageOf c t s k * c.page + atOf c t s k % perOf c k * nth c.cl k

set_option maxHeartbeats 4000000 in
theorem slot_Addr {b gp k : Nat} {c : Conf} {t : Nat} {s : Int} {w : World} (h : PlanAt w b gp c t) (hk : AtClass c t s k) :
    Calls Tryd.prog 57 #[.pointer (some ⟨b, 0, none⟩), .int .i64 s] w fun e w' => e = .returned (.tuple #[.int .i64 (addrOf c t s k), .int .i64 0]) ∧ Ext w w' := by
  have H := Lib.hid h; have HK := Lib.hid hk
  have m8 := h.ok.cl.most
  have kl := hk.lt
  have k0 : (0 : Int) ≤ (k : Int) := Int.natCast_nonneg _
  have k1 : (k : Int) < (c.cl.length : Int) := by omega
  have bd := h.ok.bounds h.ti kl
  have u1 := bd.per1; have u2 := bd.per32; have u3 := bd.s2048; have u4 := bd.c2; have u5 := bd.c64; have u6 := bd.p64; have u7 := bd.cpage
  have gl := h.ok.sG_le h.ti (Nat.le_of_lt kl)
  obtain ⟨g0, g1⟩ := gl
  have a0 : 0 ≤ atOf c t s k := by have := hk.lo; unfold atOf; omega
  have a1 : atOf c t s k ≤ 2048 := by have := hk.hi; have e : sS c t (k + 1) = sS c t k + slotsOf c t k := rfl; unfold atOf; omega
  have HP := Lib.hid (show addrOf c t s k = (sG c t k + atOf c t s k / perOf c k) * c.page + atOf c t s k % perOf c k * nth c.cl k from rfl)
  generalize ha : atOf c t s k = a at *
  have HA := Lib.hid (show s - sS c t k = a from ha)
  obtain ⟨q, hq⟩ : ∃ q, a / perOf c k = q := ⟨_, rfl⟩
  obtain ⟨r, hr⟩ : ∃ r, a % perOf c k = r := ⟨_, rfl⟩
  have q0 : 0 ≤ q := by rw [← hq]; exact Int.ediv_nonneg a0 (by omega)
  have q1 : q ≤ 2048 := by rw [← hq]; exact Int.le_trans (Int.ediv_le_self _ a0) a1
  have r0 : 0 ≤ r := by rw [← hr]; exact Int.emod_nonneg _ (by omega)
  have r1 : r ≤ 32 := by rw [← hr]; have := Int.emod_lt_of_pos a (show 0 < perOf c k by omega); omega
  obtain ⟨p1, hp1⟩ : ∃ p, (sG c t k + q) * c.page = p := ⟨_, rfl⟩
  obtain ⟨p2, hp2⟩ : ∃ p, r * nth c.cl k = p := ⟨_, rfl⟩
  have b1 := mul_bd (a := sG c t k + q) (b := c.page) (A := 18432) (B := 64) (by omega) (by omega) (by omega) u6
  have b2 := mul_bd (a := r) (b := nth c.cl k) (A := 32) (B := 64) r0 r1 (by omega) u5
  rw [hp1] at b1; rw [hp2] at b2
  obtain ⟨b10, b11⟩ := b1; obtain ⟨b20, b21⟩ := b2
  rw [hq, hr, hp1, hp2] at HP
  have HQ := Lib.hid hq; have HR := Lib.hid hr; have HP1 := Lib.hid hp1; have HP2 := Lib.hid hp2
  clear h hk bd ha hq hr hp1 hp2
  go_enter Tryd.func57, Tryd.ntmps57
  go_wp2_with fail
  refine (slot_find a H.out HK.out HA.out).mono ?_
  rintro e w1 ⟨rfl, x⟩
  obtain ⟨cap, h0⟩ := (H.out.ext x).parts
  have h3 := (H.out.ext x).page
  obtain ⟨c0, c1, c2, c3, c4⟩ := (H.out.ext x).cells kl
  have hb : b < w1.heap.size := cell_lt h0
  have hq := HQ.out; have hr := HR.out; have hp1 := HP1.out; have hp2 := HP2.out
  generalize perOf c k = pe at *
  generalize sG c t k = G at *
  generalize nth c.cl k = sz at *
  generalize c.page = pg at *
  have pz : ¬ pe = 0 := by omega
  go_wp2_with fail
  go_quiet (fail)
  go_wp2_with fail
  go_ret2
  exact ⟨by rw [HP.out]; rfl, (x.alloc _).drewN _⟩

end Go.Proofs.YtnbngcagnchkdaaDoor

/-! slot: in, In. -/
namespace Go.Proofs.YtnbngcagnchkdaaDoor
open Go.RowKit Go.Shelf

/-- A block of five cells that may be written. -/
structure Five (w : World) (b : Nat) (v0 v1 v2 v3 v4 : Value) : Prop where
  c0 : w.cell? ⟨b, 0, none⟩ = some v0
  c1 : w.cell? ⟨b, 1, none⟩ = some v1
  c2 : w.cell? ⟨b, 2, none⟩ = some v2
  c3 : w.cell? ⟨b, 3, none⟩ = some v3
  c4 : w.cell? ⟨b, 4, none⟩ = some v4
  fz : ∀ o, w.frozen? ⟨b, o, none⟩ = false
theorem Five.lt {w : World} {b : Nat} {v0 v1 v2 v3 v4 : Value} (h : Five w b v0 v1 v2 v3 v4) : b < w.heap.size := cell_lt h.c0
theorem Five.ext {w w' : World} {b : Nat} {v0 v1 v2 v3 v4 : Value} (h : Five w b v0 v1 v2 v3 v4) (hx : Ext w w') : Five w' b v0 v1 v2 v3 v4 :=
  ⟨hx.cell h.c0, hx.cell h.c1, hx.cell h.c2, hx.cell h.c3, hx.cell h.c4, fun o => by rw [hx.frozen (p := ⟨b, o, none⟩) h.lt]; exact h.fz o⟩
theorem Five.new (w : World) (v0 v1 v2 v3 v4 : Value) (t : TypeId) {b : Nat} (hb : w.heap.size = b) : Five (w.alloc (.cells #[v0, v1, v2, v3, v4] t)) b v0 v1 v2 v3 v4 := by
  subst hb
  exact ⟨cell_newN w _ t 0, cell_newN w _ t 1, cell_newN w _ t 2, cell_newN w _ t 3, cell_newN w _ t 4, fun o => World.frozen?_alloc_at _ _ _ _ rfl⟩
theorem fOth {W : World} {b i j : Nat} {u v : Value} (h : decide (i = j) = false) (hc : W.cell? ⟨b, j, none⟩ = some v) : (W.setCell ⟨b, i, none⟩ u).cell? ⟨b, j, none⟩ = some v := by
  have := World.cell?_setCell_other W ⟨b, i, none⟩ ⟨b, j, none⟩ u (by intro e; cases e; simp at h)
  rw [this]; exact hc
theorem fSame {W : World} {b j : Nat} {u v : Value} (hc : W.cell? ⟨b, j, none⟩ = some v) : (W.setCell ⟨b, j, none⟩ u).cell? ⟨b, j, none⟩ = some u := World.cell?_setCell_same W _ _ hc
theorem Five.store {W : World} {b : Nat} {v0 v1 v2 v3 v4 : Value} (h : Five W b v0 v1 v2 v3 v4) (u0 u1 u2 u3 u4 : Value) : Five (((((W.setCell ⟨b, 0, none⟩ u0).setCell ⟨b, 1, none⟩ u1).setCell ⟨b, 2, none⟩ u2).setCell ⟨b, 3, none⟩ u3).setCell ⟨b, 4, none⟩ u4) b u0 u1 u2 u3 u4 := by
  refine ⟨?_, ?_, ?_, ?_, ?_, fun o => by simpa using h.fz o⟩
  · exact fOth rfl (fOth rfl (fOth rfl (fOth rfl (fSame h.c0))))
  · exact fOth rfl (fOth rfl (fOth rfl (fSame (fOth rfl h.c1))))
  · exact fOth rfl (fOth rfl (fSame (fOth rfl (fOth rfl h.c2))))
  · exact fOth rfl (fSame (fOth rfl (fOth rfl (fOth rfl h.c3))))
  · exact fSame (fOth rfl (fOth rfl (fOth rfl (fOth rfl h.c4))))
theorem far5 {W : World} {b : Nat} {a : Addr} (h : b ≠ a.block) {v0 v1 v2 v3 v4 v : Value} (hc : W.cell? a = some v) : (((((W.setCell ⟨b, 0, none⟩ v0).setCell ⟨b, 1, none⟩ v1).setCell ⟨b, 2, none⟩ v2).setCell ⟨b, 3, none⟩ v3).setCell ⟨b, 4, none⟩ v4).cell? a = some v := by
  rw [cell_far _ _ _ _ (by exact h), cell_far _ _ _ _ (by exact h), cell_far _ _ _ _ (by exact h), cell_far _ _ _ _ (by exact h), cell_far _ _ _ _ (by exact h)]
  exact hc
theorem Ext.set5 {w W : World} (h : Ext w W) {b : Nat} (hb : w.heap.size ≤ b) (u0 u1 u2 u3 u4 : Value) : Ext w (((((W.setCell ⟨b, 0, none⟩ u0).setCell ⟨b, 1, none⟩ u1).setCell ⟨b, 2, none⟩ u2).setCell ⟨b, 3, none⟩ u3).setCell ⟨b, 4, none⟩ u4) :=
  ((((h.setCell (p := ⟨b, 0, none⟩) hb u0).setCell (p := ⟨b, 1, none⟩) hb u1).setCell (p := ⟨b, 2, none⟩) hb u2).setCell (p := ⟨b, 3, none⟩) hb u3).setCell (p := ⟨b, 4, none⟩) hb u4

/-- How many of its class's slots lie ahead of a page. -/
def aheadP (c : Conf) (t : Nat) (p : Int) (k : Nat) : Int := (p - sG c t k) * perOf c k

end Go.Proofs.YtnbngcagnchkdaaDoor

/-! slot: In. -/
namespace Go.Proofs.YtnbngcagnchkdaaDoor
open Go.RowKit Go.Shelf

/-- A page's first slot, and how many it has. -/
def firstP (c : Conf) (t : Nat) (p : Int) (k : Nat) : Int := sS c t k + aheadP c t p k
def manyP (c : Conf) (t : Nat) (p : Int) (k : Nat) : Int := if slotsOf c t k - aheadP c t p k < perOf c k then slotsOf c t k - aheadP c t p k else perOf c k

theorem ahead_bd {c : Conf} {t k : Nat} {p : Int} (ho : KOk c) (ht : t < c.ts.length) (hk : AtPage c t p k) : 0 ≤ aheadP c t p k ∧ aheadP c t p k < slotsOf c t k := by
  have bd := ho.bounds ht hk.lt
  have u1 := bd.per1
  have e : sG c t (k + 1) = sG c t k + pagesOf c t k := rfl
  have lo := hk.lo; have hi := hk.hi
  have hd : p - sG c t k + 1 ≤ pagesOf c t k := by omega
  have hpg : pagesOf c t k * perOf c k ≤ slotsOf c t k + perOf c k - 1 := by unfold pagesOf; exact Int.ediv_mul_le _ (by omega)
  have h1 := Int.mul_le_mul_of_nonneg_right (c := perOf c k) hd (by omega)
  have h2 : (p - sG c t k + 1) * perOf c k = (p - sG c t k) * perOf c k + perOf c k := by rw [Int.add_mul, Int.one_mul]
  unfold aheadP
  exact ⟨Int.mul_nonneg (by omega) (by omega), by omega⟩

end Go.Proofs.YtnbngcagnchkdaaDoor

/-! The first values of a sequence. No program is named here. -/
namespace Go.Proofs.YtnbngcagnchkdaaDoor

def upto {α : Type} (f : Nat → α) (k : Nat) : List α := (List.range k).map f
theorem upto_succ {α : Type} (f : Nat → α) (k : Nat) : upto f (k + 1) = upto f k ++ [f k] := by simp [upto, List.range_succ]
theorem upto_length {α : Type} (f : Nat → α) (k : Nat) : (upto f k).length = k := by simp [upto]
theorem upto_snoc {α : Type} {f : Nat → α} {pre : List α} {x : α} (h : pre ++ [x] = upto f (pre ++ [x]).length) : pre = upto f pre.length ∧ x = f pre.length := by
  rw [List.length_append, List.length_singleton, upto_succ] at h
  have h1 := List.append_inj h (by simp [upto_length])
  exact ⟨h1.1, by simpa using h1.2⟩

end Go.Proofs.YtnbngcagnchkdaaDoor

/-! slot: the function that addrs hands back: its contract as an iterator. -/
namespace Go.Proofs.YtnbngcagnchkdaaDoor
open Go.RowKit Go.Shelf
attribute [local go_sem] Oper.semAt_some

/-- What a round is handed: a slot, and its address. -/
abbrev PItem := Int × Int
def encP (x : PItem) : Array Value := #[.int .i64 x.1, .int .i64 x.2]
def pitem (c : Conf) (t : Nat) (p : Int) (k j : Nat) : PItem := (firstP c t p k + j, p * c.page + j * nth c.cl k)
/-- What a round leaves: all below, and all cells. -/
def KC (n₀ : Nat) (A B : World) : Prop := Below n₀ A B ∧ ∀ (k : Nat) (o : Obj), A.heap[k]? = some o → o.isCells = true → B.heap[k]? = some o
theorem KC.trans {n₀ : Nat} {A B C : World} (h : KC n₀ A B) (k : KC n₀ B C) : KC n₀ A C := ⟨h.1.trans k.1, fun i o h1 h2 => k.2 i o (h.2 i o h1 h2) h2⟩
theorem KC.refl (n₀ : Nat) (A : World) : KC n₀ A A := ⟨Below.refl _ _, fun _ _ h _ => h⟩

theorem manyP_bd {c : Conf} {t k : Nat} {p : Int} (ho : KOk c) (ht : t < c.ts.length) (hk : AtPage c t p k) : 1 ≤ manyP c t p k ∧ manyP c t p k ≤ 32 := by
  have bd := ho.bounds ht hk.lt
  have u1 := bd.per1; have u2 := bd.per32
  obtain ⟨a0, a1⟩ := ahead_bd ho ht hk
  unfold manyP
  split <;> omega
theorem firstP_bd {c : Conf} {t k : Nat} {p : Int} (ho : KOk c) (ht : t < c.ts.length) (hk : AtPage c t p k) : 0 ≤ firstP c t p k ∧ firstP c t p k ≤ 20000 := by
  have bd := ho.bounds ht hk.lt
  have u3 := bd.s2048
  have m8 := ho.cl.most
  have kl := hk.lt
  have gl := ho.sS_le ht (Nat.le_of_lt kl)
  obtain ⟨a0, a1⟩ := ahead_bd ho ht hk
  unfold firstP
  omega

end Go.Proofs.YtnbngcagnchkdaaDoor

/-! slot: At. -/
namespace Go.Proofs.YtnbngcagnchkdaaDoor
open Go.RowKit Go.Shelf
attribute [local go_sem] Oper.semAt_some

theorem wpIn_region_noPanic {F : Fence} {n : Nat} {P : Program} {id : Nat} {ops : Array Oper} {bb : Bool} {Q : Exit → Act → World → Prop} {a : Act} {w : World} (h : (Code.region id ops bb).wpIn F n P (NoPanic Q) a w) : (Code.region id ops bb).wpIn F n P Q a w :=
  wpIn_mono h (fun e a w h => NoPanic.imp e a w h)
theorem three_new (w : World) (v0 v1 v2 : Value) (t0 t1 t2 : TypeId) :
    (((w.alloc (.cells #[v0] t0)).alloc (.cells #[v1] t1)).alloc (.cells #[v2] t2)).cell? ⟨w.heap.size, 0, none⟩ = some v0 ∧
    ((((w.alloc (.cells #[v0] t0)).alloc (.cells #[v1] t1)).alloc (.cells #[v2] t2)).cell? ⟨w.heap.size + 1, 0, none⟩ = some v1 ∧ (((w.alloc (.cells #[v0] t0)).alloc (.cells #[v1] t1)).alloc (.cells #[v2] t2)).frozen? ⟨w.heap.size + 1, 0, none⟩ = false) ∧
    ((((w.alloc (.cells #[v0] t0)).alloc (.cells #[v1] t1)).alloc (.cells #[v2] t2)).cell? ⟨w.heap.size + 1 + 1, 0, none⟩ = some v2 ∧ (((w.alloc (.cells #[v0] t0)).alloc (.cells #[v1] t1)).alloc (.cells #[v2] t2)).frozen? ⟨w.heap.size + 1 + 1, 0, none⟩ = false) := by
  have c1 := cell_newN (w.alloc (.cells #[v0] t0)) #[v1] t1 0
  have c2 := cell_newN ((w.alloc (.cells #[v0] t0)).alloc (.cells #[v1] t1)) #[v2] t2 0
  have f1 : ((w.alloc (.cells #[v0] t0)).alloc (.cells #[v1] t1)).frozen? ⟨(w.alloc (.cells #[v0] t0)).heap.size, 0, none⟩ = false := World.frozen?_alloc_at _ _ _ _ rfl
  have f2 : (((w.alloc (.cells #[v0] t0)).alloc (.cells #[v1] t1)).alloc (.cells #[v2] t2)).frozen? ⟨((w.alloc (.cells #[v0] t0)).alloc (.cells #[v1] t1)).heap.size, 0, none⟩ = false := World.frozen?_alloc_at _ _ _ _ rfl
  simp only [World.size_alloc] at c1 c2 f1 f2
  have e := (Ext.refl ((w.alloc (.cells #[v0] t0)).alloc (.cells #[v1] t1))).alloc (.cells #[v2] t2)
  exact ⟨(((Ext.refl _).alloc _).alloc _).cell (cell_newN w _ _ 0), ⟨e.cell c1, e.frozenAt c1 f1⟩, c2, f2⟩

theorem KC_b {n₀ : Nat} {w : World} (hn : n₀ ≤ w.heap.size) (W : World) (l : Nat) (o o' : Obj) (hl : w.heap.size ≤ l) (h : W.heap[l]? = some o) (hc : o.isCells = false) (hw : o.isWalk = false) : KC n₀ W (W.putObj l o') := by
  refine ⟨belowK_b hn W l o o' hl h hc hw, fun k o2 hk h2 => ?_⟩
  have hne : k ≠ l := by rintro rfl; rw [h] at hk; cases hk; rw [hc] at h2; cases h2
  have hlt : k < W.heap.size := (Array.getElem?_eq_some_iff.1 hk).1
  have hg := grownBy_putObj' W l o'
  rw [hg.block k hlt (by simpa using hne)]; exact hk

/-- What At tells of an address. -/
def IsAt (c : Conf) (t : Nat) (p : Int) (k N : Nat) (addr r q : Int) : Prop :=
  (∃ j : Nat, j < N ∧ p * c.page + j * nth c.cl k = addr ∧ r = firstP c t p k + j ∧ q = 0) ∨ ((∀ j : Nat, j < N → p * c.page + j * nth c.cl k ≠ addr) ∧ r = 0 ∧ q = 7)

end Go.Proofs.YtnbngcagnchkdaaDoor

/-! slot: the plain law of slots and addresses. -/
namespace Go.Proofs.YtnbngcagnchkdaaDoor

/-- A slot's place within its class: the page's, and that within the page. -/
structure InPage (c : Conf) (t : Nat) (s : Int) (k : Nat) (d m : Int) : Prop where
  eq : s = sS c t k + d * perOf c k + m
  d0 : 0 ≤ d
  dP : d < pagesOf c t k
  m0 : 0 ≤ m
  mP : m < perOf c k
  lt : d * perOf c k + m < slotsOf c t k
  pg : pageOf c t s k = sG c t k + d
  ad : addrOf c t s k = (sG c t k + d) * c.page + m * nth c.cl k
theorem AtClass.inPage {c : Conf} {t k : Nat} {s : Int} (ho : KOk c) (ht : t < c.ts.length) (h : AtClass c t s k) : ∃ d m, InPage c t s k d m := by
  have bd := ho.bounds ht h.lt
  have p1 := bd.per1
  have hi := h.hi
  have lo := h.lo
  have hs : sS c t (k + 1) = sS c t k + slotsOf c t k := rfl
  have e1 := Int.emod_add_mul_ediv (s - sS c t k) (perOf c k)
  have m0 := Int.emod_nonneg (s - sS c t k) (by omega : perOf c k ≠ 0)
  have m1 := Int.emod_lt_of_pos (s - sS c t k) (by omega : 0 < perOf c k)
  have d0 := Int.ediv_nonneg (a := s - sS c t k) (b := perOf c k) (by omega) (by omega)
  rw [Int.mul_comm] at e1
  refine ⟨(s - sS c t k) / perOf c k, (s - sS c t k) % perOf c k, by omega, d0, ?_, m0, m1, by omega, rfl, rfl⟩
  have : (s - sS c t k) / perOf c k + 1 ≤ (slotsOf c t k + perOf c k - 1) / perOf c k := by
    rw [Int.le_ediv_iff_mul_le (by omega), Int.add_mul]
    omega
  unfold pagesOf
  omega
theorem perOf_le {c : Conf} {k : Nat} (h : 2 ≤ nth c.cl k) : perOf c k * nth c.cl k ≤ c.page := by
  unfold perOf
  exact Int.ediv_mul_le _ (by omega)
theorem InPage.inside {c : Conf} {t k : Nat} {s d m : Int} (ho : KOk c) (ht : t < c.ts.length) (hk : k < c.cl.length) (h : InPage c t s k d m) : 0 ≤ m * nth c.cl k ∧ m * nth c.cl k + nth c.cl k ≤ c.page := by
  have bd := ho.bounds ht hk
  have c2 := bd.c2
  have h1 := perOf_le (c := c) (k := k) c2
  have h2 := Int.mul_nonneg h.m0 (by omega : 0 ≤ nth c.cl k)
  have h3 := Int.mul_le_mul_of_nonneg_right (show m + 1 ≤ perOf c k by have := h.mP; omega) (by omega : 0 ≤ nth c.cl k)
  rw [Int.add_mul] at h3
  omega
theorem InPage.page {c : Conf} {t k : Nat} {s d m : Int} (hk : k < c.cl.length) (h : InPage c t s k d m) : AtPage c t (sG c t k + d) k :=
  ⟨hk, by have := h.d0; omega, by have : sG c t (k + 1) = sG c t k + pagesOf c t k := rfl; have := h.dP; omega⟩
theorem div_in {p n x : Int} (hn : 1 ≤ n) (h0 : 0 ≤ x) (h1 : x < n) : (p * n + x) / n = p := by
  rw [Int.add_comm, Int.add_mul_ediv_right _ _ (by omega), Int.ediv_eq_zero_of_lt h0 h1]
  omega
theorem InPage.divs {c : Conf} {t k : Nat} {s d m : Int} (ho : KOk c) (ht : t < c.ts.length) (hk : k < c.cl.length) (h : InPage c t s k d m) :
    addrOf c t s k / c.page = sG c t k + d ∧ (addrOf c t s k + nth c.cl k - 1) / c.page = sG c t k + d := by
  have hi := h.inside ho ht hk
  have bd := ho.bounds ht hk
  have c2 := bd.c2; have cp := bd.cpage
  rw [h.ad]
  refine ⟨div_in (by omega) hi.1 (by omega), ?_⟩
  have := div_in (p := sG c t k + d) (n := c.page) (x := m * nth c.cl k + nth c.cl k - 1) (by omega) (by omega) (by omega)
  rwa [show (sG c t k + d) * c.page + (m * nth c.cl k + nth c.cl k - 1) = (sG c t k + d) * c.page + m * nth c.cl k + nth c.cl k - 1 by omega] at this
theorem InPage.ahead {c : Conf} {t k : Nat} {s d m : Int} (h : InPage c t s k d m) : aheadP c t (sG c t k + d) k = d * perOf c k := by
  have _ := h
  unfold aheadP
  rw [show sG c t k + d - sG c t k = d by omega]
theorem InPage.first {c : Conf} {t k : Nat} {s d m : Int} (h : InPage c t s k d m) : firstP c t (sG c t k + d) k + m = s ∧ m < manyP c t (sG c t k + d) k := by
  have ha := h.ahead
  have e := h.eq
  have l := h.lt
  have mp := h.mP
  unfold firstP manyP
  rw [ha]
  refine ⟨by omega, ?_⟩
  split <;> omega
theorem InPage.isAt {c : Conf} {t k N : Nat} {s d m : Int} (h : InPage c t s k d m) (hN : manyP c t (sG c t k + d) k = N) : IsAt c t (sG c t k + d) k N (addrOf c t s k) s 0 := by
  have f := h.first
  have m0 := h.m0
  have hm : ((m.toNat : Nat) : Int) = m := by omega
  exact .inl ⟨m.toNat, by omega, by rw [hm, h.ad], by rw [hm]; exact f.1.symm, rfl⟩

theorem sG_mono {c : Conf} (ho : KOk c) {t : Nat} (ht : t < c.ts.length) {a b : Nat} (hab : a ≤ b) (hb : b ≤ c.cl.length) : sG c t a + ((b - a : Nat) : Int) ≤ sG c t b := sumTo_lt (ho.pages1 ht) hab hb
theorem sS_mono {c : Conf} (ho : KOk c) {t : Nat} (ht : t < c.ts.length) {a b : Nat} (hab : a ≤ b) (hb : b ≤ c.cl.length) : sS c t a + ((b - a : Nat) : Int) ≤ sS c t b := sumTo_lt (ho.slots1 ht) hab hb
theorem AtClass.uniq {c : Conf} (ho : KOk c) {t : Nat} (ht : t < c.ts.length) {s : Int} {k j : Nat} (h : AtClass c t s k) (h' : AtClass c t s j) : k = j := by
  have a := h.lo; have b := h.hi; have a' := h'.lo; have b' := h'.hi; have l := h.lt; have l' := h'.lt
  rcases Nat.lt_trichotomy k j with g | g | g
  · have := sS_mono ho ht (a := k + 1) (b := j) g (by omega); omega
  · exact g
  · have := sS_mono ho ht (a := j + 1) (b := k) g (by omega); omega
theorem AtPage.uniq {c : Conf} (ho : KOk c) {t : Nat} (ht : t < c.ts.length) {s : Int} {k j : Nat} (h : AtPage c t s k) (h' : AtPage c t s j) : k = j := by
  have a := h.lo; have b := h.hi; have a' := h'.lo; have b' := h'.hi; have l := h.lt; have l' := h'.lt
  rcases Nat.lt_trichotomy k j with g | g | g
  · have := sG_mono ho ht (a := k + 1) (b := j) g (by omega); omega
  · exact g
  · have := sG_mono ho ht (a := j + 1) (b := k) g (by omega); omega

/-- A later slot lies behind the slot before it. -/
theorem slots_apart {c : Conf} (ho : KOk c) {t : Nat} (ht : t < c.ts.length) {s s' : Int} {k k' : Nat} (h : AtClass c t s k) (h' : AtClass c t s' k') (hs : s < s') : addrOf c t s k + nth c.cl k ≤ addrOf c t s' k' := by
  obtain ⟨d, m, q⟩ := h.inPage ho ht
  obtain ⟨d', m', q'⟩ := h'.inPage ho ht
  have i1 := q.inside ho ht h.lt
  have i2 := q'.inside ho ht h'.lt
  have pg1 : 1 ≤ c.page := by have := (ho.bounds ht h.lt).c2; omega
  have far : ∀ {x y : Int}, x + 1 ≤ y → x * c.page + c.page ≤ y * c.page := fun {x y} hxy => by
    have := Int.mul_le_mul_of_nonneg_right hxy (by omega : 0 ≤ c.page)
    rwa [Int.add_mul, Int.one_mul] at this
  rw [q.ad, q'.ad]
  have kk : k ≤ k' := by
    rcases Nat.lt_or_ge k' k with g | g
    · have := sS_mono ho ht (a := k' + 1) (b := k) g (by have := h.lt; omega)
      have := h'.hi; have := h.lo; omega
    · exact g
  rcases Nat.lt_or_ge k k' with g | g
  · have g1 := sG_mono ho ht (a := k + 1) (b := k') g (by have := h'.lt; omega)
    have g2 : sG c t (k + 1) = sG c t k + pagesOf c t k := rfl
    have := far (x := sG c t k + d) (y := sG c t k' + d') (by have := q.dP; have := q'.d0; omega)
    omega
  · have e : k' = k := by omega
    subst e
    have e1 := q.eq; have e2 := q'.eq
    have p1 := (ho.bounds ht h.lt).per1
    have dd : d ≤ d' := by
      rcases Int.lt_or_le d' d with g | g
      · have := Int.mul_le_mul_of_nonneg_right (show d' + 1 ≤ d by omega) (by omega : 0 ≤ perOf c k')
        rw [Int.add_mul] at this
        have := q'.mP; have := q.m0; omega
      · exact g
    rcases Int.lt_or_le d d' with g | g
    · have := far (x := sG c t k' + d) (y := sG c t k' + d') (by omega)
      omega
    · have e3 : d' = d := by omega
      subst e3
      have := Int.mul_le_mul_of_nonneg_right (show m + 1 ≤ m' by omega) (by have := (ho.bounds ht h.lt).c2; omega : 0 ≤ nth c.cl k')
      rw [Int.add_mul, Int.one_mul] at this
      omega
/-- All slots lie in the region. -/
theorem slots_within {c : Conf} (ho : KOk c) {t : Nat} (ht : t < c.ts.length) {s : Int} {k : Nat} (h : AtClass c t s k) : 0 ≤ addrOf c t s k ∧ addrOf c t s k + nth c.cl k ≤ sG c t c.cl.length * c.page := by
  obtain ⟨d, m, q⟩ := h.inPage ho ht
  have i1 := q.inside ho ht h.lt
  have pg1 : 1 ≤ c.page := by have := (ho.bounds ht h.lt).c2; omega
  have g1 := sG_mono ho ht (a := k + 1) (b := c.cl.length) h.lt (Nat.le_refl _)
  have g2 : sG c t (k + 1) = sG c t k + pagesOf c t k := rfl
  have g3 := (ho.sG_le ht (k := k) (by have := h.lt; omega)).1
  have d0 := q.d0
  have h1 := Int.mul_le_mul_of_nonneg_right (show sG c t k + d + 1 ≤ sG c t c.cl.length by have := q.dP; omega) (by omega : 0 ≤ c.page)
  rw [Int.add_mul, Int.one_mul] at h1
  have h2 := Int.mul_nonneg (show 0 ≤ sG c t k + d by omega) (by omega : 0 ≤ c.page)
  rw [q.ad]
  omega
/-- An address is a slot's, or no slot's. -/
theorem addr_cases {c : Conf} (ho : KOk c) {t k N : Nat} (ht : t < c.ts.length) {a p : Int} (hp : a / c.page = p) (hk : AtPage c t p k) (hN : manyP c t p k = N) :
    (∃ s, AtClass c t s k ∧ addrOf c t s k = a ∧ IsAt c t p k N a s 0) ∨ ((∀ s j, AtClass c t s j → addrOf c t s j ≠ a) ∧ IsAt c t p k N a 0 7) := by
  by_cases he : ∃ j : Nat, j < N ∧ p * c.page + j * nth c.cl k = a
  · obtain ⟨j, h1, h2⟩ := he
    have ab := ahead_bd ho ht hk
    have hj : (j : Int) < perOf c k ∧ aheadP c t p k + j < slotsOf c t k := by
      unfold manyP at hN; split at hN <;> omega
    have AC : AtClass c t (firstP c t p k + j) k := ⟨hk.lt, by unfold firstP; omega, by unfold firstP; have : sS c t (k + 1) = sS c t k + slotsOf c t k := rfl; omega⟩
    refine .inl ⟨firstP c t p k + j, AC, ?_, .inl ⟨j, h1, h2, rfl, rfl⟩⟩
    obtain ⟨d, m, q⟩ := AC.inPage ho ht
    have e := q.eq
    have p1 := (ho.bounds ht hk.lt).per1
    have hd : (p - sG c t k) * perOf c k + j = d * perOf c k + m := by unfold firstP aheadP at e; omega
    have d1 : ((p - sG c t k) * perOf c k + j) / perOf c k = p - sG c t k := div_in p1 (by omega) hj.1
    have d2 : (d * perOf c k + m) / perOf c k = d := div_in p1 q.m0 q.mP
    have hdd : d = p - sG c t k := by rw [hd] at d1; omega
    have hm : m = j := by rw [hdd] at hd; omega
    rw [q.ad, hdd, hm, show sG c t k + (p - sG c t k) = p by omega, h2]
  · refine .inr ⟨fun s j AC e => he ?_, .inr ⟨fun j h1 h2 => he ⟨j, h1, h2⟩, rfl, rfl⟩⟩
    obtain ⟨d, m, q⟩ := AC.inPage ho ht
    have dv := (q.divs ho ht AC.lt).1
    rw [e, hp] at dv
    have hpg := q.page AC.lt
    rw [← dv] at hpg
    obtain rfl := hpg.uniq ho ht hk
    have f := q.first
    have m0 := q.m0
    rw [← dv] at f
    have hm : ((m.toNat : Nat) : Int) = m := by omega
    refine ⟨m.toNat, by omega, ?_⟩
    rw [hm, ← e, q.ad, ← dv]

/-- Addresses counted: the slots below an address. -/
structure Found (c : Conf) (t : Nat) (a f : Int) : Prop where
  f0 : 0 ≤ f
  fS : f ≤ sS c t c.cl.length
  below : ∀ s k, AtClass c t s k → s < f → addrOf c t s k < a
  above : ∀ s k, AtClass c t s k → f ≤ s → a ≤ addrOf c t s k
theorem Found.start {c : Conf} (ho : KOk c) {t : Nat} (ht : t < c.ts.length) : Found c t (-1) 0 :=
  ⟨Int.le_refl _, by have := (ho.sS_le ht (Nat.le_refl _)).1; omega, fun s k h hs => by
    have := (ho.sS_le ht (k := k) (by have := h.lt; omega)).1; have := h.lo; omega, fun s k h _ => by have := (slots_within ho ht h).1; omega⟩
theorem Found.hit {c : Conf} (ho : KOk c) {t : Nat} (ht : t < c.ts.length) {a f s : Int} {k : Nat} (h : Found c t a f) (hs : AtClass c t s k) (he : addrOf c t s k = a) : Found c t (a + 1) (f + 1) := by
  have h1 : f ≤ s := by
    rcases Int.lt_or_le s f with g | g
    · have := h.below s k hs g; omega
    · exact g
  have sS1 : s < sS c t c.cl.length := by
    have := sS_mono ho ht (a := k + 1) (b := c.cl.length) hs.lt (Nat.le_refl _); have := hs.hi; omega
  have h2 : s = f := by
    rcases Int.lt_or_le f s with g | g
    · obtain ⟨j, hj⟩ := atClass_find (c := c) (t := t) h.f0 (by omega : f < sS c t c.cl.length)
      have := h.above f j hj (Int.le_refl _)
      have := slots_apart ho ht hj hs g
      have := (ho.bounds ht hj.lt).c2
      omega
    · omega
  subst h2
  refine ⟨by have := h.f0; omega, by omega, fun x j hx hl => ?_, fun x j hx hl => ?_⟩
  · rcases Int.lt_or_le x s with g | g
    · have := h.below x j hx g; omega
    · obtain rfl : x = s := by omega
      obtain rfl := hx.uniq ho ht hs
      omega
  · have := slots_apart ho ht hs hx (by omega)
    have := (ho.bounds ht hs.lt).c2
    omega
theorem Found.miss {c : Conf} {t : Nat} {a f : Int} (h : Found c t a f) (hn : ∀ s k, AtClass c t s k → addrOf c t s k ≠ a) : Found c t (a + 1) f :=
  ⟨h.f0, h.fS, fun s k hs hl => by have := h.below s k hs hl; omega, fun s k hs hl => by have := h.above s k hs hl; have := hn s k hs; omega⟩
theorem Found.all {c : Conf} (ho : KOk c) {t : Nat} (ht : t < c.ts.length) {a f : Int} (h : Found c t a f) (ha : sG c t c.cl.length * c.page ≤ a) : f = sS c t c.cl.length := by
  rcases Int.lt_or_le f (sS c t c.cl.length) with g | g
  · obtain ⟨j, hj⟩ := atClass_find h.f0 g
    have := h.above f j hj (Int.le_refl _)
    have := slots_within ho ht hj
    have := (ho.bounds ht hj.lt).c2
    omega
  · have := h.fS; omega

/-- Where a page's slots begin; behind the last page: all slots. -/
def PgStart (c : Conf) (t : Nat) (p x : Int) : Prop := (∃ k, AtPage c t p k ∧ x = firstP c t p k) ∨ (p = sG c t c.cl.length ∧ x = sS c t c.cl.length)
theorem pgStart_at {c : Conf} (ho : KOk c) {t : Nat} (ht : t < c.ts.length) (k : Nat) (hk : k ≤ c.cl.length) : PgStart c t (sG c t k) (sS c t k) := by
  rcases Nat.lt_or_ge k c.cl.length with g | g
  · refine .inl ⟨k, ⟨g, Int.le_refl _, ?_⟩, ?_⟩
    · have : sG c t (k + 1) = sG c t k + pagesOf c t k := rfl
      have := (ho.bounds ht g).pg1; omega
    · unfold firstP aheadP; simp
  · obtain rfl : k = c.cl.length := by omega
    exact .inr ⟨rfl, rfl⟩
theorem pgStart_next {c : Conf} (ho : KOk c) {t k : Nat} (ht : t < c.ts.length) {p : Int} (h : AtPage c t p k) : PgStart c t (p + 1) (firstP c t p k + manyP c t p k) := by
  have e1 : sG c t (k + 1) = sG c t k + pagesOf c t k := rfl
  have e2 : sS c t (k + 1) = sS c t k + slotsOf c t k := rfl
  have lo := h.lo; have hi := h.hi
  have p1 := (ho.bounds ht h.lt).per1
  rcases Int.lt_or_le (p + 1) (sG c t (k + 1)) with g | g
  · have hn : AtPage c t (p + 1) k := ⟨h.lt, by omega, g⟩
    have ab := ahead_bd ho ht hn
    have ea : aheadP c t (p + 1) k = aheadP c t p k + perOf c k := by
      unfold aheadP; rw [show p + 1 - sG c t k = p - sG c t k + 1 by omega, Int.add_mul, Int.one_mul]
    refine .inl ⟨k, hn, ?_⟩
    unfold firstP manyP
    rw [ea] at ab ⊢
    rw [if_neg (by omega)]
    omega
  · have hp1 : p + 1 = sG c t (k + 1) := by omega
    rw [hp1]
    have hl : slotsOf c t k ≤ aheadP c t p k + perOf c k := by
      have hpg : pagesOf c t k = p - sG c t k + 1 := by omega
      have hle : ¬ (p - sG c t k + 1 + 1 ≤ (slotsOf c t k + perOf c k - 1) / perOf c k) := by unfold pagesOf at hpg; omega
      rw [Int.le_ediv_iff_mul_le (by omega), Int.add_mul, Int.add_mul, Int.one_mul] at hle
      unfold aheadP
      omega
    have hm : firstP c t p k + manyP c t p k = sS c t (k + 1) := by
      unfold firstP manyP; split <;> omega
    rw [hm]
    exact pgStart_at ho ht (k + 1) h.lt
theorem page_slots {c : Conf} (ho : KOk c) {t k : Nat} (ht : t < c.ts.length) {p : Int} (h : AtPage c t p k) :
    1 ≤ manyP c t p k ∧ AtClass c t (firstP c t p k) k ∧ AtClass c t (firstP c t p k + manyP c t p k - 1) k := by
  have ab := ahead_bd ho ht h
  have p1 := (ho.bounds ht h.lt).per1
  have e2 : sS c t (k + 1) = sS c t k + slotsOf c t k := rfl
  have hm : manyP c t p k = slotsOf c t k - aheadP c t p k ∨ (manyP c t p k = perOf c k ∧ perOf c k ≤ slotsOf c t k - aheadP c t p k) := by
    unfold manyP; split <;> omega
  refine ⟨?_, ⟨h.lt, ?_, ?_⟩, ⟨h.lt, ?_, ?_⟩⟩ <;> (try unfold firstP) <;> omega

end Go.Proofs.YtnbngcagnchkdaaDoor

/-! The document's slots in plain Lean: each slot's class, size, address and page; each page's first slot and how many it has. No program is named here. -/
namespace Go.Proofs.YtnbngcagnchkdaaDoor
open Go.RowKit

theorem InPage.of {c : Conf} {t k : Nat} {d i : Nat} (bd : Bounds c t k) (hi : (i : Int) < perOf c k) (hd : (d : Int) * perOf c k + i < slotsOf c t k) (hp : (d : Int) < pagesOf c t k) : InPage c t (sS c t k + d * perOf c k + i) k d i := by
  have p1 := bd.per1
  have e : atOf c t (sS c t k + d * perOf c k + i) k = d * perOf c k + i := by unfold atOf; omega
  have e1 : (d * perOf c k + (i : Int)) / perOf c k = d := by
    rw [Int.add_comm, Int.add_mul_ediv_right _ _ (by omega), Int.ediv_eq_zero_of_lt (by omega) hi]; omega
  have e2 : (d * perOf c k + (i : Int)) % perOf c k = i := by
    rw [Int.add_comm, Int.add_mul_emod_self_right, Int.emod_eq_of_lt (by omega) hi]
  have pg : pageOf c t (sS c t k + d * perOf c k + i) k = sG c t k + d := by unfold pageOf; rw [e, e1]
  exact ⟨rfl, by omega, hp, by omega, hi, hd, pg, by unfold addrOf; rw [pg, e, e2]⟩

/-- A slot's class; a page's. -/
def kOf (c : Conf) (t : Nat) (s : Int) : Nat := ((List.range c.cl.length).find? fun k => decide (s < sS c t (k + 1))).getD 0
def kpOf (c : Conf) (t : Nat) (p : Int) : Nat := ((List.range c.cl.length).find? fun k => decide (p < sG c t (k + 1))).getD 0
theorem AtClass.kOf {c : Conf} (ho : KOk c) {t : Nat} (ht : t < c.ts.length) {s : Int} {k : Nat} (h : AtClass c t s k) : kOf c t s = k := by
  have : (List.range c.cl.length).find? (fun k => decide (s < sS c t (k + 1))) = some k := by
    rw [List.find?_range_eq_some]
    refine ⟨by simpa using h.hi, by simpa using h.lt, fun j hj => ?_⟩
    have := sS_mono ho ht (a := j + 1) (b := k) (by omega) (by have := h.lt; omega)
    have := h.lo
    simp; omega
  unfold Go.Proofs.YtnbngcagnchkdaaDoor.kOf; rw [this]; rfl
theorem AtPage.kpOf {c : Conf} (ho : KOk c) {t : Nat} (ht : t < c.ts.length) {p : Int} {k : Nat} (h : AtPage c t p k) : kpOf c t p = k := by
  have : (List.range c.cl.length).find? (fun k => decide (p < sG c t (k + 1))) = some k := by
    rw [List.find?_range_eq_some]
    refine ⟨by simpa using h.hi, by simpa using h.lt, fun j hj => ?_⟩
    have := sG_mono ho ht (a := j + 1) (b := k) (by omega) (by have := h.lt; omega)
    have := h.lo
    simp; omega
  unfold Go.Proofs.YtnbngcagnchkdaaDoor.kpOf; rw [this]; rfl

def slc (c : Conf) (t : Nat) (s : Int) : List Value := [.int .i64 (kOf c t s), .int .i64 (nth c.cl (kOf c t s)), .int .i64 (addrOf c t s (kOf c t s)), .int .i64 (pageOf c t s (kOf c t s))]
def slcs (c : Conf) (t : Nat) : Nat → List Value
  | 0 => []
  | n + 1 => slcs c t n ++ slc c t n
theorem slcs_len (c : Conf) (t : Nat) : ∀ n, (slcs c t n).length = n * 4
  | 0 => rfl
  | n + 1 => by show (slcs c t n ++ slc c t n).length = _; rw [List.length_append, slcs_len c t n]; simp [slc]; omega
theorem slcs_at (c : Conf) (t : Nat) : ∀ n i j, i < n → j < 4 → (slcs c t n)[i * 4 + j]? = (slc c t i)[j]?
  | 0, i, j, hi, _ => absurd hi (Nat.not_lt_zero _)
  | n + 1, i, j, hi, hj => by
    show (slcs c t n ++ slc c t n)[i * 4 + j]? = _
    by_cases e : i < n
    · rw [List.getElem?_append_left (by rw [slcs_len]; omega)]; exact slcs_at c t n i j e hj
    · obtain rfl : i = n := by omega
      rw [List.getElem?_append_right (by rw [slcs_len]; omega), slcs_len]
      congr 1; omega
theorem slc_one (c : Conf) (t : Nat) (s : Int) : ∀ u ∈ slc c t s, u.oneCell' = true := by
  intro u h
  simp only [slc, List.mem_cons, List.not_mem_nil, or_false] at h
  rcases h with rfl | rfl | rfl | rfl <;> rfl

/-- The pages' first slots, and how many they have. -/
def firsts (c : Conf) (t n : Nat) : List Int := (List.range n).map fun (p : Nat) => firstP c t (p : Int) (kpOf c t (p : Int))
def manys (c : Conf) (t n : Nat) : List Int := (List.range n).map fun (p : Nat) => manyP c t (p : Int) (kpOf c t (p : Int))
theorem firsts_len (c : Conf) (t n : Nat) : (firsts c t n).length = n := by simp [firsts]
theorem manys_len (c : Conf) (t n : Nat) : (manys c t n).length = n := by simp [manys]
theorem firsts_succ (c : Conf) (t n : Nat) : firsts c t (n + 1) = firsts c t n ++ [firstP c t (n : Int) (kpOf c t n)] := by unfold firsts; rw [List.range_succ, List.map_append]; rfl
theorem manys_succ (c : Conf) (t n : Nat) : manys c t (n + 1) = manys c t n ++ [manyP c t (n : Int) (kpOf c t n)] := by unfold manys; rw [List.range_succ, List.map_append]; rfl
theorem nth_firsts {c : Conf} {t n p : Nat} (h : p < n) : nth (firsts c t n) p = firstP c t p (kpOf c t p) := by simp [nth, List.getD, firsts, h]
theorem nth_manys {c : Conf} {t n p : Nat} (h : p < n) : nth (manys c t n) p = manyP c t p (kpOf c t p) := by simp [nth, List.getD, manys, h]

end Go.Proofs.YtnbngcagnchkdaaDoor
