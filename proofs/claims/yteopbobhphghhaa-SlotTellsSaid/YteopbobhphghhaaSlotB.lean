/-
  slot: last, find, Class, Size, Page, Addr, in, In.
-/
import Derived.Test.YteopbobhphghhaaSlotA
import Derived.Test.YteopbobhphghhaaClassC
import Derived.Deep.RegionHeld3
import Derived.Shelf.Abstract
namespace Go.Proofs.Yteopbobhphghhaa
open Go.RowKit Go.Shelf

/-- A part as a value. -/
def pv5 (x : Part) : Value := .agg #[.int .i64 x.size, .int .i64 x.first, .int .i64 x.many, .int .i64 x.page, .int .i64 x.per]
/-- The function value g answers r of the part x, wherever memory has gone on from w. -/
def AnswersP (P : Program) (g : Nat) (cs : Array Value) (x : Part) (r : Bool) (w : World) : Prop :=
  ∀ w', Ext w w' → Calls P g (#[pv5 x] ++ cs) w' fun e w'' => e = .returned (.bool r) ∧ Ext w' w''

theorem slot_find1 (x : Part) (s : Int) (r : Bool) (p : Addr) {w : World} (hs : w.cell? p = some (.int .i64 s)) (hr : decide (x.first ≤ s) = r) :
    Calls Try.prog 90 #[pv5 x, .pointer (some p)] w fun e w' => e = .returned (.bool r) ∧ Ext w w' := by
  unfold pv5
  have HR := Lib.hid hr
  have hl : p.block < w.heap.size := cell_lt hs
  have hs2 : (w.alloc (.cells #[.int .i64 x.size, .int .i64 x.first, .int .i64 x.many, .int .i64 x.page, .int .i64 x.per] 106)).cell? p = some (.int .i64 s) := cell_alloc hs _
  clear hr
  go_enter Try.func90, Try.ntmps90
  go_wp2_with fail
  go_ret
  exact ⟨ret_bool HR.out, (Ext.refl w).alloc _⟩
theorem slot_in1 (x : Part) (s : Int) (r : Bool) (p : Addr) {w : World} (hs : w.cell? p = some (.int .i64 s)) (hr : decide (x.page ≤ s) = r) :
    Calls Try.prog 91 #[pv5 x, .pointer (some p)] w fun e w' => e = .returned (.bool r) ∧ Ext w w' := by
  unfold pv5
  have HR := Lib.hid hr
  have hl : p.block < w.heap.size := cell_lt hs
  have hs2 : (w.alloc (.cells #[.int .i64 x.size, .int .i64 x.first, .int .i64 x.many, .int .i64 x.page, .int .i64 x.per] 106)).cell? p = some (.int .i64 s) := cell_alloc hs _
  clear hr
  go_enter Try.func91, Try.ntmps91
  go_wp2_with fail
  go_ret
  exact ⟨ret_bool HR.out, (Ext.refl w).alloc _⟩

set_option maxHeartbeats 4000000 in
theorem slot_last1 {b gp so pb i : Nat} {c : Conf} {t : Nat} (g : Nat) (cs : Array Value) (r : Bool) {w : World} (h : PlanAt w b gp c t) (hi : i < c.cl.length) (hs : w.cell? ⟨so, 0, none⟩ = some (.func (.func g) #[] cs)) (hp : w.cell? ⟨pb, 0, none⟩ = some (.pointer (some ⟨b, 0, none⟩)))
    (ha : AnswersP Try.prog g cs (partOf c t i) r w) (hk : Enters Try.prog g) :
    Calls Try.prog 93 #[.int .i64 i, .pointer (some ⟨so, 0, none⟩), .pointer (some ⟨pb, 0, none⟩)] w fun e w' => e = .returned (.bool (!r)) ∧ Ext w w' := by
  unfold Enters at hk
  have HA := Lib.hid ha
  obtain ⟨cap, h0⟩ := h.parts
  obtain ⟨r0, r1, r2, r3, r4⟩ := h.cells hi
  have m8 := h.ok.cl.most
  have hi0 : (0 : Int) ≤ (i : Int) := Int.natCast_nonneg _
  have hi1 : (i : Int) < (c.cl.length : Int) := by omega
  have hd : Ext w w.drew := (Ext.refl w).drew
  clear ha h
  go_enter Try.func93, Try.ntmps93
  go_wp2_with fail
  go_region_held3 (fun w' => w'.cell? ⟨so, 0, none⟩ = some (.func (.func g) #[] cs) ∧ w'.cell? ⟨pb, 0, none⟩ = some (.pointer (some ⟨b, 0, none⟩)) ∧ w'.cell? ⟨b, 0, none⟩ = some (.slice (some ⟨gp, 0, none⟩) c.cl.length cap) ∧ w'.cell? ⟨gp, i * 5, none⟩ = some (.int .i64 (nth c.cl i)) ∧ w'.cell? ⟨gp, i * 5 + 1, none⟩ = some (.int .i64 (sS c t i)) ∧ w'.cell? ⟨gp, i * 5 + 2, none⟩ = some (.int .i64 (slotsOf c t i)) ∧ w'.cell? ⟨gp, i * 5 + 3, none⟩ = some (.int .i64 (sG c t i)) ∧ w'.cell? ⟨gp, i * 5 + 4, none⟩ = some (.int .i64 (perOf c i)))
    ((first | go_keep | (go_split_ands; exact ⟨hE.cell (by assumption), hE.cell (by assumption), hE.cell (by assumption), hE.cell (by assumption), hE.cell (by assumption), hE.cell (by assumption), hE.cell (by assumption), hE.cell (by assumption)⟩)))
    ((go_at_fn g; refine (HA.out _ hd).mono ?_; rintro e w1 ⟨rfl, hE⟩))
  all_goals
    go_wp2_with fail
    go_ret
    exact ⟨rfl, hd.trans hE⟩

theorem enters_last1 : Enters Try.prog 93 := Enters.mk Try.func93 (by kernel_rfl) rfl
theorem enters_find1 : Enters Try.prog 90 := Enters.mk Try.func90 (by kernel_rfl) rfl
theorem enters_in1 : Enters Try.prog 91 := Enters.mk Try.func91 (by kernel_rfl) rfl

set_option maxHeartbeats 4000000 in
theorem slot_last {b gp K : Nat} {c : Conf} {t : Nat} (g : Nat) (cs : Array Value) {w : World} (h : PlanAt w b gp c t) (hK : K < c.cl.length)
    (ha : ∀ i, i < c.cl.length → AnswersP Try.prog g cs (partOf c t i) (decide (i ≤ K)) w) (hk : Enters Try.prog g) :
    Calls Try.prog 89 #[.pointer (some ⟨b, 0, none⟩), .func (.func g) #[] cs] w fun e w' => e = .returned (.int .i64 K) ∧ Ext w w' := by
  have HA := Lib.hid ha; have HK := Lib.hid hk
  obtain ⟨cap, h0⟩ := h.parts
  have H := Lib.hid h
  have m8 := h.ok.cl.most
  have hb : b < w.heap.size := cell_lt h0
  clear ha h hk
  go_enter Try.func89, Try.ntmps89
  go_wp2_with fail
  refine (sort_Search 93 #[.pointer (some ⟨w.heap.size + 1, 0, none⟩), .pointer (some ⟨w.heap.size, 0, none⟩)] c.cl.length (K + 1) (fun i => decide (K < i)) _ (by omega) (fun i w' hi hx => ?_) (by omega) (fun i hi => by simp; omega) (fun i hi _ => by simp; omega) enters_last1).mono ?_
  · have hxw : Ext w w' := Ext.trans (((Ext.refl w).alloc _).alloc _) hx
    refine (slot_last1 g cs (decide (i ≤ K)) (H.out.ext hxw) hi (hx.cell (by simp)) (hx.cell (by simp)) (fun w'' hx'' => HA.out i hi w'' (hxw.trans hx'')) HK.out).mono ?_
    rintro e w1 ⟨rfl, hE⟩
    exact ⟨ret_bool (by by_cases hc : i ≤ K <;> simp [hc] <;> omega), hE⟩
  · rintro e w1 ⟨rfl, x⟩
    go_wp2_with fail
    go_ret
    exact ⟨rfl, Ext.trans (((Ext.refl w).alloc _).alloc _) x⟩

set_option maxHeartbeats 4000000 in
theorem slot_find {b gp k : Nat} {c : Conf} {t : Nat} {s : Int} (a : Int) {w : World} (h : PlanAt w b gp c t) (hk : AtClass c t s k) (ha : s - sS c t k = a) :
    Calls Try.prog 81 #[.pointer (some ⟨b, 0, none⟩), .int .i64 s] w fun e w' => e = .returned (.tuple #[.int .i64 k, .int .i64 a, .int .i64 0]) ∧ Ext w w' := by
  obtain ⟨cap, h0⟩ := h.parts
  have h1 := h.slots
  have H := Lib.hid h
  have m8 := h.ok.cl.most
  have hb : b < w.heap.size := cell_lt h0
  have kl := hk.lt
  have lo := hk.lo
  have sl := h.ok.sS_le h.ti (Nat.le_of_lt hk.lt)
  have sn := h.ok.sS_le h.ti (Nat.le_refl _)
  have up := sumTo_lt (f := slotsOf c t) (n := c.cl.length) (a := k + 1) (b := c.cl.length) (h.ok.slots1 h.ti) (by omega) (Nat.le_refl _)
  have hi := hk.hi
  have up2 : sS c t (k + 1) ≤ sS c t c.cl.length := by unfold sS; omega
  have t0 : decide (s < 0) = false := by simp; omega
  have t1 : decide (sS c t c.cl.length ≤ s) = false := by simp; omega
  have HS := Lib.hid (h.ok.S_side h.ti hk)
  have HA := Lib.hid ha
  have s0 : 0 ≤ s := by omega
  have s1 : s ≤ 16384 := by omega
  clear up hi up2 h hk ha
  go_enter Try.func81, Try.ntmps81
  go_wp2_with fail
  refine (slot_none (H.out.ext ((Ext.refl _).alloc _))).mono ?_
  rintro e w1 ⟨rfl, rfl⟩
  go_wp2_with fail
  go_quiet (fail)
  go_wp2_with fail
  have hc : ∀ nq, ((w.alloc (.cells #[.int .i64 s] 3)).drewN nq).cell? ⟨w.heap.size, 0, none⟩ = some (.int .i64 s) := fun nq => ((Ext.refl _).drewN nq).cell (cell_newN w _ _ 0)
  have X0 := ((Ext.refl w).alloc (.cells #[.int .i64 s] 3)).drewN nq
  replace hc := hc nq
  generalize (w.alloc (.cells #[.int .i64 s] 3)).drewN nq = w2 at *
  refine (slot_last (K := k) 90 #[.pointer (some ⟨w.heap.size, 0, none⟩)] (H.out.ext X0) kl (fun i hi w' hx => slot_find1 (partOf c t i) s (decide (i ≤ k)) ⟨w.heap.size, 0, none⟩ (hx.cell hc) (HS.out i hi)) enters_find1).mono ?_
  rintro e w3 ⟨rfl, x3⟩
  have hc3 := x3.cell hc
  have X3 := X0.trans x3
  have c0 := X3.cell h0
  obtain ⟨_, r1, _, _, _⟩ := (H.out.ext X3).cells kl
  have k0 : (0 : Int) ≤ (k : Int) := Int.natCast_nonneg _
  have k1 : (k : Int) < (c.cl.length : Int) := by omega
  obtain ⟨sl0, sl1⟩ := sl
  clear hc X0 x3
  generalize sS c t k = S at *
  go_wp2_with fail
  go_quiet (fail)
  go_wp2_with fail
  go_ret3
  exact ⟨by rw [← HA.out]; rfl, X3.drewN _⟩
set_option maxHeartbeats 4000000 in
theorem slot_find_no {b gp : Nat} {c : Conf} {t : Nat} {s : Int} {w : World} (h : PlanAt w b gp c t) (hk : s < 0 ∨ sS c t c.cl.length ≤ s) :
    Calls Try.prog 81 #[.pointer (some ⟨b, 0, none⟩), .int .i64 s] w fun e w' => e = .returned (.tuple #[.int .i64 0, .int .i64 0, .int .i64 2]) ∧ Ext w w' := by
  have h1 := h.slots
  have H := Lib.hid h
  have hb : b < w.heap.size := cell_lt h1
  have sn := h.ok.sS_le h.ti (Nat.le_refl _)
  clear h
  by_cases h0 : s < 0
  · have t0 : decide (s < 0) = true := by simp; omega
    clear hk
    go_enter Try.func81, Try.ntmps81
    go_wp2_with fail
    refine (slot_none (H.out.ext ((Ext.refl _).alloc _))).mono ?_
    rintro e w1 ⟨rfl, rfl⟩
    go_wp2_with fail
    go_quiet (fail)
    go_wp2_with fail
    go_ret3
    exact ⟨rfl, ((Ext.refl _).alloc _).drewN _⟩
  · have t0 : decide (s < 0) = false := by simp; omega
    have t1 : decide (sS c t c.cl.length ≤ s) = true := by simp; omega
    have s0 : 0 ≤ s := by omega
    clear hk
    go_enter Try.func81, Try.ntmps81
    go_wp2_with fail
    refine (slot_none (H.out.ext ((Ext.refl _).alloc _))).mono ?_
    rintro e w1 ⟨rfl, rfl⟩
    go_wp2_with fail
    go_quiet (fail)
    go_wp2_with fail
    go_ret3
    exact ⟨rfl, ((Ext.refl _).alloc _).drewN _⟩

theorem slot_Class {b gp k : Nat} {c : Conf} {t : Nat} {s : Int} {w : World} (h : PlanAt w b gp c t) (hk : AtClass c t s k) :
    Calls Try.prog 58 #[.pointer (some ⟨b, 0, none⟩), .int .i64 s] w fun e w' => e = .returned (.tuple #[.int .i64 k, .int .i64 0]) ∧ Ext w w' := by
  have H := Lib.hid h; have HK := Lib.hid hk
  clear h hk
  go_enter Try.func58, Try.ntmps58
  go_wp2_with fail
  refine (slot_find _ H.out HK.out rfl).mono ?_
  rintro e w1 ⟨rfl, x⟩
  go_wp2_with fail
  go_ret2
  exact ⟨rfl, x⟩
theorem slot_Class_no {b gp : Nat} {c : Conf} {t : Nat} {s : Int} {w : World} (h : PlanAt w b gp c t) (hk : s < 0 ∨ sS c t c.cl.length ≤ s) :
    Calls Try.prog 58 #[.pointer (some ⟨b, 0, none⟩), .int .i64 s] w fun e w' => e = .returned (.tuple #[.int .i64 0, .int .i64 2]) ∧ Ext w w' := by
  have H := Lib.hid h; have HK := Lib.hid hk
  clear h hk
  go_enter Try.func58, Try.ntmps58
  go_wp2_with fail
  refine (slot_find_no H.out HK.out).mono ?_
  rintro e w1 ⟨rfl, x⟩
  go_wp2_with fail
  go_ret2
  exact ⟨rfl, x⟩

set_option maxHeartbeats 4000000 in
theorem slot_Size {b gp k : Nat} {c : Conf} {t : Nat} {s : Int} {w : World} (h : PlanAt w b gp c t) (hk : AtClass c t s k) :
    Calls Try.prog 67 #[.pointer (some ⟨b, 0, none⟩), .int .i64 s] w fun e w' => e = .returned (.tuple #[.int .i64 (nth c.cl k), .int .i64 0]) ∧ Ext w w' := by
  have H := Lib.hid h; have HK := Lib.hid hk
  have m8 := h.ok.cl.most
  have kl := hk.lt
  have k0 : (0 : Int) ≤ (k : Int) := Int.natCast_nonneg _
  have k1 : (k : Int) < (c.cl.length : Int) := by omega
  clear h hk
  go_enter Try.func67, Try.ntmps67
  go_wp2_with fail
  refine (slot_find _ H.out HK.out rfl).mono ?_
  rintro e w1 ⟨rfl, x⟩
  obtain ⟨cap, h0⟩ := (H.out.ext x).parts
  obtain ⟨r0, _, _, _, _⟩ := (H.out.ext x).cells kl
  go_wp2_with fail
  go_ret2
  exact ⟨rfl, x⟩

/-- Where a slot lies: the which of its class it is; its page; its address. -/
def atOf (c : Conf) (t : Nat) (s : Int) (k : Nat) : Int := s - sS c t k
def pageOf (c : Conf) (t : Nat) (s : Int) (k : Nat) : Int := sG c t k + atOf c t s k / perOf c k
def addrOf (c : Conf) (t : Nat) (s : Int) (k : Nat) : Int := pageOf c t s k * c.page + atOf c t s k % perOf c k * nth c.cl k

set_option maxHeartbeats 4000000 in
theorem slot_Page {b gp k : Nat} {c : Conf} {t : Nat} {s : Int} {w : World} (h : PlanAt w b gp c t) (hk : AtClass c t s k) :
    Calls Try.prog 59 #[.pointer (some ⟨b, 0, none⟩), .int .i64 s] w fun e w' => e = .returned (.tuple #[.int .i64 (pageOf c t s k), .int .i64 0]) ∧ Ext w w' := by
  have H := Lib.hid h; have HK := Lib.hid hk
  have m8 := h.ok.cl.most
  have kl := hk.lt
  have k0 : (0 : Int) ≤ (k : Int) := Int.natCast_nonneg _
  have k1 : (k : Int) < (c.cl.length : Int) := by omega
  have bd := h.ok.bounds h.ti kl
  have u1 := bd.per1; have u2 := bd.per32; have u3 := bd.s2048
  have gl := h.ok.sG_le h.ti (Nat.le_of_lt kl)
  obtain ⟨g0, g1⟩ := gl
  have a0 : 0 ≤ atOf c t s k := by have := hk.lo; unfold atOf; omega
  have a1 : atOf c t s k ≤ 2048 := by have := hk.hi; have e : sS c t (k + 1) = sS c t k + slotsOf c t k := rfl; unfold atOf; omega
  have HP := Lib.hid (show pageOf c t s k = sG c t k + atOf c t s k / perOf c k from rfl)
  obtain ⟨q, hq⟩ : ∃ q, atOf c t s k / perOf c k = q := ⟨_, rfl⟩
  have q0 : 0 ≤ q := by rw [← hq]; exact Int.ediv_nonneg a0 (by omega)
  have q1 : q ≤ 2048 := by rw [← hq]; exact Int.le_trans (Int.ediv_le_self _ a0) a1
  have HQ := Lib.hid hq
  clear h hk bd hq
  generalize ha : atOf c t s k = a at *
  have HA := Lib.hid (show s - sS c t k = a from ha)
  clear ha
  go_enter Try.func59, Try.ntmps59
  go_wp2_with fail
  refine (slot_find a H.out HK.out HA.out).mono ?_
  rintro e w1 ⟨rfl, x⟩
  obtain ⟨cap, h0⟩ := (H.out.ext x).parts
  obtain ⟨_, _, _, r3, r4⟩ := (H.out.ext x).cells kl
  have hq := HQ.out
  generalize perOf c k = pe at *
  generalize sG c t k = G at *
  have pz : ¬ pe = 0 := by omega
  go_wp2_with fail
  go_quiet (fail)
  go_wp2_with fail
  go_ret2
  exact ⟨by rw [HP.out, HQ.out]; rfl, x.drewN _⟩

set_option maxHeartbeats 4000000 in
theorem slot_Addr {b gp k : Nat} {c : Conf} {t : Nat} {s : Int} {w : World} (h : PlanAt w b gp c t) (hk : AtClass c t s k) :
    Calls Try.prog 57 #[.pointer (some ⟨b, 0, none⟩), .int .i64 s] w fun e w' => e = .returned (.tuple #[.int .i64 (addrOf c t s k), .int .i64 0]) ∧ Ext w w' := by
  have H := Lib.hid h; have HK := Lib.hid hk
  have m8 := h.ok.cl.most
  have kl := hk.lt
  have k0 : (0 : Int) ≤ (k : Int) := Int.natCast_nonneg _
  have k1 : (k : Int) < (c.cl.length : Int) := by omega
  have bd := h.ok.bounds h.ti kl
  have u1 := bd.per1; have u2 := bd.per32; have u3 := bd.s2048; have u4 := bd.c2; have u5 := bd.c64; have u6 := bd.p64; have u7 := bd.cpage
  have gl := h.ok.sG_le h.ti (Nat.le_of_lt kl)
  obtain ⟨g0, g1⟩ := gl
  have a0 : 0 ≤ atOf c t s k := by have := hk.lo; unfold atOf; omega
  have a1 : atOf c t s k ≤ 2048 := by have := hk.hi; have e : sS c t (k + 1) = sS c t k + slotsOf c t k := rfl; unfold atOf; omega
  have HP := Lib.hid (show addrOf c t s k = (sG c t k + atOf c t s k / perOf c k) * c.page + atOf c t s k % perOf c k * nth c.cl k from rfl)
  generalize ha : atOf c t s k = a at *
  have HA := Lib.hid (show s - sS c t k = a from ha)
  obtain ⟨q, hq⟩ : ∃ q, a / perOf c k = q := ⟨_, rfl⟩
  obtain ⟨r, hr⟩ : ∃ r, a % perOf c k = r := ⟨_, rfl⟩
  have q0 : 0 ≤ q := by rw [← hq]; exact Int.ediv_nonneg a0 (by omega)
  have q1 : q ≤ 2048 := by rw [← hq]; exact Int.le_trans (Int.ediv_le_self _ a0) a1
  have r0 : 0 ≤ r := by rw [← hr]; exact Int.emod_nonneg _ (by omega)
  have r1 : r ≤ 32 := by rw [← hr]; have := Int.emod_lt_of_pos a (show 0 < perOf c k by omega); omega
  obtain ⟨p1, hp1⟩ : ∃ p, (sG c t k + q) * c.page = p := ⟨_, rfl⟩
  obtain ⟨p2, hp2⟩ : ∃ p, r * nth c.cl k = p := ⟨_, rfl⟩
  have b1 := mul_bd (a := sG c t k + q) (b := c.page) (A := 18432) (B := 64) (by omega) (by omega) (by omega) u6
  have b2 := mul_bd (a := r) (b := nth c.cl k) (A := 32) (B := 64) r0 r1 (by omega) u5
  rw [hp1] at b1; rw [hp2] at b2
  obtain ⟨b10, b11⟩ := b1; obtain ⟨b20, b21⟩ := b2
  rw [hq, hr, hp1, hp2] at HP
  have HQ := Lib.hid hq; have HR := Lib.hid hr; have HP1 := Lib.hid hp1; have HP2 := Lib.hid hp2
  clear h hk bd ha hq hr hp1 hp2
  go_enter Try.func57, Try.ntmps57
  go_wp2_with fail
  refine (slot_find a H.out HK.out HA.out).mono ?_
  rintro e w1 ⟨rfl, x⟩
  obtain ⟨cap, h0⟩ := (H.out.ext x).parts
  have h3 := (H.out.ext x).page
  obtain ⟨c0, c1, c2, c3, c4⟩ := (H.out.ext x).cells kl
  have hb : b < w1.heap.size := cell_lt h0
  have hq := HQ.out; have hr := HR.out; have hp1 := HP1.out; have hp2 := HP2.out
  generalize perOf c k = pe at *
  generalize sG c t k = G at *
  generalize nth c.cl k = sz at *
  generalize c.page = pg at *
  have pz : ¬ pe = 0 := by omega
  go_wp2_with fail
  go_quiet (fail)
  go_wp2_with fail
  go_ret2
  exact ⟨by rw [HP.out]; rfl, (x.alloc _).drewN _⟩

end Go.Proofs.Yteopbobhphghhaa
