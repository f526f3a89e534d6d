/-
  A plan's shape in the memory; what only reads it.
-/
import Derived.Test.YteopbobhphghhaaRef06
import Derived.Test.YteopbobhphghhaaSlotP
import Derived.Test.YteopbobhphghhaaOwnI
import Derived.Deep.RegionHeld3
namespace Go.Proofs.Yteopbobhphghhaa
open Go.RowKit

/-- A part as cells; parts. -/
def pc5 (x : Part) : List Value := [.int .i64 x.size, .int .i64 x.first, .int .i64 x.many, .int .i64 x.page, .int .i64 x.per]
def pcs (c : Conf) (t : Nat) : Nat → List Value
  | 0 => []
  | k + 1 => pcs c t k ++ pc5 (partOf c t k)
theorem pcs_len (c : Conf) (t : Nat) : ∀ k, (pcs c t k).length = k * 5
  | 0 => rfl
  | k + 1 => by show (pcs c t k ++ pc5 (partOf c t k)).length = _; rw [List.length_append, pcs_len c t k]; simp [pc5]; omega
theorem pcs_at (c : Conf) (t : Nat) : ∀ k i j, i < k → j < 5 → (pcs c t k)[i * 5 + j]? = (pc5 (partOf c t i))[j]?
  | 0, i, j, hi, _ => absurd hi (Nat.not_lt_zero _)
  | k + 1, i, j, hi, hj => by
    show (pcs c t k ++ pc5 (partOf c t k))[i * 5 + j]? = _
    by_cases e : i < k
    · rw [List.getElem?_append_left (by rw [pcs_len]; omega)]; exact pcs_at c t k i j e hj
    · obtain rfl : i = k := by omega
      rw [List.getElem?_append_right (by rw [pcs_len]; omega), pcs_len, show i * 5 + j - i * 5 = j by omega]
theorem pc5_one (x : Part) : ∀ u ∈ pc5 x, u.oneCell' = true := by
  intro u hu
  simp only [pc5, List.mem_cons, List.not_mem_nil, or_false] at hu
  rcases hu with rfl | rfl | rfl | rfl | rfl <;> rfl

/-- A plan of tenant t of c: its box b, its parts' block gp. -/
structure PlanAt (w : World) (b gp : Nat) (c : Conf) (t : Nat) : Prop where
  ok : KOk c
  ti : t < c.ts.length
  parts : ∃ cap, w.cell? ⟨b, 0, none⟩ = some (.slice (some ⟨gp, 0, none⟩) c.cl.length cap)
  slots : w.cell? ⟨b, 1, none⟩ = some (.int .i64 (sS c t c.cl.length))
  pages : w.cell? ⟨b, 2, none⟩ = some (.int .i64 (sG c t c.cl.length))
  page : w.cell? ⟨b, 3, none⟩ = some (.int .i64 c.page)
  row : ∀ i, i < c.cl.length → ∀ j u, (pc5 (partOf c t i))[j]? = some u → w.cell? ⟨gp, i * 5 + j, none⟩ = some u
theorem PlanAt.ext {w w' : World} {b gp : Nat} {c : Conf} {t : Nat} (h : PlanAt w b gp c t) (hx : Ext w w') : PlanAt w' b gp c t := by
  obtain ⟨cap, h0⟩ := h.parts
  exact ⟨h.ok, h.ti, ⟨cap, hx.cell h0⟩, hx.cell h.slots, hx.cell h.pages, hx.cell h.page, fun i hi j u hu => hx.cell (h.row i hi j u hu)⟩
theorem PlanAt.cells {w : World} {b gp : Nat} {c : Conf} {t : Nat} (h : PlanAt w b gp c t) {i : Nat} (hi : i < c.cl.length) :
    w.cell? ⟨gp, i * 5, none⟩ = some (.int .i64 (nth c.cl i)) ∧ w.cell? ⟨gp, i * 5 + 1, none⟩ = some (.int .i64 (sS c t i)) ∧ w.cell? ⟨gp, i * 5 + 2, none⟩ = some (.int .i64 (slotsOf c t i)) ∧
    w.cell? ⟨gp, i * 5 + 3, none⟩ = some (.int .i64 (sG c t i)) ∧ w.cell? ⟨gp, i * 5 + 4, none⟩ = some (.int .i64 (perOf c i)) :=
  ⟨h.row i hi 0 _ rfl, h.row i hi 1 _ rfl, h.row i hi 2 _ rfl, h.row i hi 3 _ rfl, h.row i hi 4 _ rfl⟩

theorem PlanAt.pg2 {w : World} {b gp : Nat} {c : Conf} {t : Nat} (h : PlanAt w b gp c t) : 2 ≤ c.page ∧ c.page ≤ 64 := by
  have bd := h.ok.bounds h.ti (k := 0) h.ok.cl.pos
  have := bd.c2; have := bd.cpage; have := bd.p64; omega

set_option maxHeartbeats 1000000 in
theorem slot_none {b gp : Nat} {c : Conf} {t : Nat} {w : World} (h : PlanAt w b gp c t) : Calls Try.prog 65 #[.pointer (some ⟨b, 0, none⟩)] w fun e w' => e = .returned (.bool false) ∧ w = w' := by
  have h3 := h.page
  have hp := h.pg2.1
  have t0 : (c.page == 0) = false := by simp; omega
  go_enter Try.func65, Try.ntmps65
  go_wp2_with fail
  go_ret
  exact ⟨rfl, rfl⟩
set_option maxHeartbeats 1000000 in
theorem slot_Slots {b gp : Nat} {c : Conf} {t : Nat} {w : World} (h : PlanAt w b gp c t) : Calls Try.prog 30 #[.pointer (some ⟨b, 0, none⟩)] w fun e w' => e = .returned (.int .i64 (sS c t c.cl.length)) ∧ w = w' := by
  have h1 := h.slots
  have H := Lib.hid h; clear h
  go_enter Try.func30, Try.ntmps30
  go_wp2_with fail
  refine (slot_none H.out).mono ?_
  rintro e w1000 ⟨rfl, rfl⟩
  go_wp2_with fail
  go_ret
  exact ⟨rfl, rfl⟩
set_option maxHeartbeats 1000000 in
theorem slot_Pages {b gp : Nat} {c : Conf} {t : Nat} {w : World} (h : PlanAt w b gp c t) : Calls Try.prog 31 #[.pointer (some ⟨b, 0, none⟩)] w fun e w' => e = .returned (.int .i64 (sG c t c.cl.length)) ∧ w = w' := by
  have h1 := h.pages
  have H := Lib.hid h; clear h
  go_enter Try.func31, Try.ntmps31
  go_wp2_with fail
  refine (slot_none H.out).mono ?_
  rintro e w1000 ⟨rfl, rfl⟩
  go_wp2_with fail
  go_ret
  exact ⟨rfl, rfl⟩
theorem mul_bd {a b : Int} {A B : Int} (h0 : 0 ≤ a) (h1 : a ≤ A) (h2 : 0 ≤ b) (h3 : b ≤ B) : 0 ≤ a * b ∧ a * b ≤ A * B := by
  refine ⟨Int.mul_nonneg h0 h2, ?_⟩
  have h4 := Int.mul_le_mul_of_nonneg_right (c := b) h1 h2
  have h5 := Int.mul_le_mul_of_nonneg_left (c := A) h3 (Int.le_trans h0 h1)
  omega
set_option maxHeartbeats 1000000 in
theorem slot_Words {b gp : Nat} {c : Conf} {t : Nat} {w : World} (h : PlanAt w b gp c t) : Calls Try.prog 32 #[.pointer (some ⟨b, 0, none⟩)] w fun e w' => e = .returned (.int .i64 (sG c t c.cl.length * c.page)) ∧ Ext w w' := by
  have h1 := h.pages; have h2 := h.page
  have g := h.ok.sG_le h.ti (Nat.le_refl _)
  have m8 := h.ok.cl.most
  have p := h.pg2
  have mb := mul_bd (a := sG c t c.cl.length) (b := c.page) (A := 16384) (B := 64) (by omega) (by omega) (by omega) p.2
  obtain ⟨mb0, mb1⟩ := mb
  have H := Lib.hid h
  clear h g p
  generalize sG c t c.cl.length = G at *
  generalize hP : G * c.page = Q at *
  generalize c.page = pg at *
  have HQ := Lib.hid hP
  have hQ := hP
  go_enter Try.func32, Try.ntmps32
  go_wp2_with fail
  refine (slot_none H.out).mono ?_
  rintro e w1000 ⟨rfl, rfl⟩
  go_wp2_with fail
  go_quiet (fail)
  go_wp2_with fail
  go_ret
  exact ⟨rfl, (Ext.refl _).drewN _⟩
set_option maxHeartbeats 2000000 in
theorem slot_Of {b gp k : Nat} {c : Conf} {t : Nat} {w : World} (h : PlanAt w b gp c t) (hk : k < c.cl.length) : Calls Try.prog 28 #[.pointer (some ⟨b, 0, none⟩), .int .i64 k] w fun e w' => e = .returned (.tuple #[.int .i64 (sS c t k), .int .i64 (slotsOf c t k), .int .i64 0]) ∧ Ext w w' := by
  obtain ⟨cap, h0⟩ := h.parts
  obtain ⟨_, r1, r2, _, _⟩ := h.cells hk
  have H := Lib.hid h
  have m8 := h.ok.cl.most
  have t0 : decide ((k : Int) < 0) = false := by simp
  have t1 : decide ((c.cl.length : Int) ≤ (k : Int)) = false := by simp; omega
  have hk0 : (0 : Int) ≤ (k : Int) := Int.natCast_nonneg _
  have hk1 : (k : Int) < (c.cl.length : Int) := by omega
  clear h
  go_enter Try.func28, Try.ntmps28
  go_wp2_with fail
  refine (slot_none H.out).mono ?_
  rintro e w1000 ⟨rfl, rfl⟩
  go_wp2_with fail
  go_quiet (fail)
  go_wp2_with fail
  go_ret3
  exact ⟨rfl, (Ext.refl _).drewN _⟩
set_option maxHeartbeats 2000000 in
theorem slot_Of_no {b gp : Nat} {k : Int} {c : Conf} {t : Nat} {w : World} (h : PlanAt w b gp c t) (hk : (c.cl.length : Int) ≤ k) : Calls Try.prog 28 #[.pointer (some ⟨b, 0, none⟩), .int .i64 k] w fun e w' => e = .returned (.tuple #[.int .i64 0, .int .i64 0, .int .i64 2]) ∧ Ext w w' := by
  obtain ⟨cap, h0⟩ := h.parts
  have H := Lib.hid h
  have m8 := h.ok.cl.most
  have t0 : decide (k < 0) = false := by simp; omega
  have t1 : decide ((c.cl.length : Int) ≤ k) = true := by simp; omega
  have hk0 : 0 ≤ k := by omega
  clear h
  go_enter Try.func28, Try.ntmps28
  go_wp2_with fail
  refine (slot_none H.out).mono ?_
  rintro e w1000 ⟨rfl, rfl⟩
  go_wp2_with fail
  go_ret3
  exact ⟨rfl, Ext.refl _⟩

end Go.Proofs.Yteopbobhphghhaa
