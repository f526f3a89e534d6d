/-
  pins: turn, Pin, Unpin.
-/
import Derived.Test.YtfhnjecnamgpkaaDoorPins3
namespace Go.Proofs.YtfhnjecnamgpkaaDoor
open Go.RowKit

theorem pins_more {p : Option Addr} {n m : Int} {r : Bool} {w : World} (hm : IntKind.u8.wrap (n + 1) = m) (hr : decide (n < 255) = r) : Calls Tryd.prog 57 #[.pointer p, .int .u8 n] w fun e w' => e = .returned (.tuple #[.int .u8 m, .bool r]) ∧ w = w' := by
  go_enter Tryd.func57, Tryd.ntmps57
  go_wp2_with fail
  go_ret2
  exact ⟨rfl, rfl⟩
theorem pins_less {p : Option Addr} {n m : Int} {r : Bool} {w : World} (hm : IntKind.u8.wrap (n - 1) = m) (hr : decide (0 < n) = r) : Calls Tryd.prog 56 #[.pointer p, .int .u8 n] w fun e w' => e = .returned (.tuple #[.int .u8 m, .bool r]) ∧ w = w' := by
  go_enter Tryd.func56, Tryd.ntmps56
  go_wp2_with fail
  go_ret2
  exact ⟨rfl, rfl⟩

theorem pbs_set {ms : List Int} {n : Nat} {y : Int} : pbs (ms.set n y) = (pbs ms).set n (decide (0 < y)) := by unfold pbs; rw [List.map_set]
/-- What a turning touches. -/
def ptch (rg g : Nat) (ms : List Int) : Nat → Prop := fun k => 0 < ms.length ∧ (k = rg ∨ k = g)
theorem PinAt.store {w : World} {b rb rg g n : Nat} {ms : List Int} {y : Int} (h : PinAt w b rb rg g ms) (hn : n < ms.length) :
    RowAt (w.setCell ⟨g, n, none⟩ (.int .u8 y)) rb rg (pbs ms) ∧ ∀ w', Chg (tch rg (pbs ms)) (w.setCell ⟨g, n, none⟩ (.int .u8 y)) w' → RowAt w' rb rg (pbs (ms.set n y)) → 0 ≤ y ∧ y ≤ 255 → PinAt w' b rb rg g (ms.set n y) ∧ Chg (ptch rg g ms) w w' := by
  have hp : 0 < ms.length := by omega
  obtain ⟨a1, a2, a3, a4⟩ := h.apart hp
  have c1 : Chg (fun k => k = g) w (w.setCell ⟨g, n, none⟩ (.int .u8 y)) := (Chg.refl (fun k => k = g) w).setCell (p := ⟨g, n, none⟩) (.inl rfl) _
  refine ⟨h.row.chg c1 (fun e => a2 e.symm) (fun _ e => a3 e.symm), fun w' hc hr hy => ?_⟩
  have C : Chg (ptch rg g ms) w w' := (c1.mono fun k e => ⟨hp, .inr e⟩).trans (hc.mono fun k e => ⟨hp, .inl e.2⟩)
  obtain ⟨a, cap, h1, h2, h3, h4, h5⟩ := h.ex
  obtain ⟨rfl, hf⟩ := h5 hp
  obtain ⟨_, _, e0, hc0⟩ := h2 0 hp
  cases e0
  have hl : g < w.heap.size := cell_lt hc0
  have nb : ¬ ptch rg g ms b := by rintro ⟨_, e | e⟩ <;> omega
  refine ⟨⟨C.cell nb h.head, ⟨some ⟨g, 0, none⟩, cap, by rw [List.length_set]; exact C.cell nb h1, (h2.set hn y).chg hc fun x o e _ ⟨_, he⟩ => ?_, by rw [List.length_set]; exact h3, h4, fun _ => ⟨rfl, fun o => ?_⟩⟩, hr, ?_, fun _ => ⟨a1, a2, a3, a4⟩, h.two⟩, C⟩
  · cases e; exact a3 he
  · rw [hc.frozen (p := ⟨g, o, none⟩) (Nat.lt_of_lt_of_le hl c1.size) (fun ⟨_, he⟩ => a3 he)]
    simpa using hf o
  · intro x hx
    rcases List.mem_or_eq_of_mem_set hx with hx | rfl
    · exact h.small x hx
    · exact hy

/-- What Pin and Unpin do to the counts. -/
def pturn (less : Bool) (ms : List Int) (i : Int) : List Int × Int :=
  if 0 ≤ i ∧ i < ms.length then
    (if less then (if 0 < nth ms i.toNat then (ms.set i.toNat (nth ms i.toNat - 1), 0) else (ms, 140))
     else (if nth ms i.toNat < 255 then (ms.set i.toNat (nth ms i.toNat + 1), 0) else (ms, 140)))
  else (ms, 2)
def TurnPost (b rb rg g : Nat) (ms ms' : List Int) (q : Int) (w : World) (e : Ending) (w' : World) : Prop := e = .returned (.int .i64 q) ∧ PinAt w' b rb rg g ms' ∧ Chg (ptch rg g ms) w w'

set_option maxHeartbeats 2000000 in
theorem pins_turn_arg {b rb rg g : Nat} {i : Int} {v : Value} (ms : List Int) {w : World} (h : PinAt w b rb rg g ms) (hi : ¬ (0 ≤ i ∧ i < ms.length)) : Calls Tryd.prog 55 #[.pointer (some ⟨b, 0, none⟩), .int .i64 i, v] w fun e w' => e = .returned (.int .i64 2) ∧ w = w' := by
  have HN := Lib.hid h.isNone
  obtain ⟨a, cap, h1, _⟩ := h.ex
  clear h
  by_cases h0 : i < 0
  · clear hi
    go_enter Tryd.func55, Tryd.ntmps55
    go_wp2_with fail
    refine (pins_none false HN.out).mono ?_
    rintro e w1000 ⟨rfl, rfl⟩
    go_wp2_with fail
    go_ret
    exact ⟨rfl, rfl⟩
  · have h2 : 0 ≤ i := by omega
    have h3 : (ms.length : Int) ≤ i := by omega
    clear hi h0
    go_enter Tryd.func55, Tryd.ntmps55
    go_wp2_with fail
    refine (pins_none false HN.out).mono ?_
    rintro e w1000 ⟨rfl, rfl⟩
    go_wp2_with fail
    go_ret
    exact ⟨rfl, rfl⟩

set_option maxRecDepth 100000 in
set_option maxHeartbeats 2000000 in
theorem pins_turn_more {b rb rg g : Nat} {i : Int} (ms ms' : List Int) (q : Int) {w : World} (h : PinAt w b rb rg g ms) (hr : pturn false ms i = (ms', q)) :
    Calls Tryd.prog 55 #[.pointer (some ⟨b, 0, none⟩), .int .i64 i, .func (.func 57) #[.pointer (some ⟨b, 0, none⟩)] #[]] w (TurnPost b rb rg g ms ms' q w) := by
  by_cases hi : 0 ≤ i ∧ i < ms.length
  · obtain ⟨n, rfl⟩ := Int.eq_ofNat_of_zero_le hi.1
    have hn : n < ms.length := by omega
    unfold pturn at hr
    rw [if_pos hi, Int.toNat_natCast] at hr
    have H := Lib.hid h
    have HN := Lib.hid h.isNone
    have h0 := h.head
    have sm := h.small _ (nth_mem hn)
    obtain ⟨a, cap, h1, h2, h3, h4, h5⟩ := h.ex
    obtain ⟨rfl, hf⟩ := h5 (by omega)
    have fz := hf n
    obtain ⟨_, _, e0, hc⟩ := h2 n hn
    cases e0
    rw [Nat.zero_add] at hc
    obtain ⟨ga, gb, gc, gd⟩ := h.apart (by omega)
    clear h h2 h5 hf hi
    by_cases ht : nth ms n < 255
    · rw [if_pos ht] at hr
      cases hr
      generalize nth ms n = y at *
      obtain ⟨d, hd⟩ : ∃ d, decide (0 < y + 1) = d := ⟨_, rfl⟩
      have HD := Lib.hid hd
      have hd2 : decide (1 < y) = decide (0 < y - 1) := by congr 1; simp
      clear hd2
      have ST := Lib.hid (H.out.store (y := y + 1) hn)
      have M1 := Lib.hid (show IntKind.u8.wrap (y + 1) = y + 1 by rw [IntKind.wrap_u8]; omega)
      have M2 := Lib.hid (show decide (y < 255) = true by simpa using ht)
      have SS := Lib.hid (bsetR_yes (bs := pbs ms) (i := n) (is := d) (by rw [pbs_len]; exact hn))
      have rc : (w.setCell ⟨g, n, none⟩ (.int .u8 (y + 1))).cell? ⟨b, 0, none⟩ = some (.pointer (some ⟨rb, 0, none⟩)) := by
        rw [cell_far _ _ _ _ (by exact ga)]; exact h0
      go_enter Tryd.func55, Tryd.ntmps55
      go_wp2_with fail
      refine (pins_none false HN.out).mono ?_
      rintro e w1000 ⟨rfl, rfl⟩
      go_wp2_with fail
      refine (pins_more M1.out M2.out).mono ?_
      rintro e w1 ⟨rfl, rfl⟩
      go_wp2_with fail
      refine (row_Set (pbs ms) _ _ ST.out.1 SS.out).mono ?_
      rintro e w2 ⟨rfl, hr2, hc2⟩
      rw [← HD.out, ← pbs_set] at hr2
      have R2 := Lib.hid (ST.out.2 _ hc2 hr2 (by omega))
      clear hr2 hc2
      go_wp2_with fail
      go_ret
      exact ⟨rfl, R2.out.1, R2.out.2⟩
    · rw [if_neg ht] at hr
      cases hr
      generalize nth ms n = y at *
      obtain ⟨m, hm⟩ : ∃ m, IntKind.u8.wrap (y + 1) = m := ⟨_, rfl⟩
      have M1 := Lib.hid hm
      have M2 := Lib.hid (show decide (y < 255) = false by simpa using ht)
      clear hm
      go_enter Tryd.func55, Tryd.ntmps55
      go_wp2_with fail
      refine (pins_none false HN.out).mono ?_
      rintro e w1000 ⟨rfl, rfl⟩
      go_wp2_with fail
      refine (pins_more M1.out M2.out).mono ?_
      rintro e w1 ⟨rfl, rfl⟩
      go_wp2_with fail
      go_ret
      exact ⟨rfl, H.out, Chg.refl _ _⟩
  · have hq : pturn false ms i = (ms, 2) := by unfold pturn; rw [if_neg hi]
    rw [hq] at hr
    cases hr
    exact (pins_turn_arg ms h hi).mono fun _ _ ⟨h1, h2⟩ => ⟨h1, h2 ▸ h, h2 ▸ Chg.refl _ _⟩

set_option maxRecDepth 100000 in
set_option maxHeartbeats 2000000 in
theorem pins_turn_less {b rb rg g : Nat} {i : Int} (ms ms' : List Int) (q : Int) {w : World} (h : PinAt w b rb rg g ms) (hr : pturn true ms i = (ms', q)) :
    Calls Tryd.prog 55 #[.pointer (some ⟨b, 0, none⟩), .int .i64 i, .func (.func 56) #[.pointer (some ⟨b, 0, none⟩)] #[]] w (TurnPost b rb rg g ms ms' q w) := by
  by_cases hi : 0 ≤ i ∧ i < ms.length
  · obtain ⟨n, rfl⟩ := Int.eq_ofNat_of_zero_le hi.1
    have hn : n < ms.length := by omega
    unfold pturn at hr
    rw [if_pos hi, Int.toNat_natCast] at hr
    have H := Lib.hid h
    have HN := Lib.hid h.isNone
    have h0 := h.head
    have sm := h.small _ (nth_mem hn)
    obtain ⟨a, cap, h1, h2, h3, h4, h5⟩ := h.ex
    obtain ⟨rfl, hf⟩ := h5 (by omega)
    have fz := hf n
    obtain ⟨_, _, e0, hc⟩ := h2 n hn
    cases e0
    rw [Nat.zero_add] at hc
    obtain ⟨ga, gb, gc, gd⟩ := h.apart (by omega)
    clear h h2 h5 hf hi
    by_cases ht : 0 < nth ms n
    · rw [if_pos ht] at hr
      cases hr
      generalize nth ms n = y at *
      obtain ⟨d, hd⟩ : ∃ d, decide (0 < y - 1) = d := ⟨_, rfl⟩
      have HD := Lib.hid hd
      have hd2 : decide (1 < y) = decide (0 < y - 1) := by congr 1; simp
      rw [hd] at hd2
      have ST := Lib.hid (H.out.store (y := y - 1) hn)
      have M1 := Lib.hid (show IntKind.u8.wrap (y - 1) = y - 1 by rw [IntKind.wrap_u8]; omega)
      have M2 := Lib.hid (show decide (0 < y) = true by simpa using ht)
      have SS := Lib.hid (bsetR_yes (bs := pbs ms) (i := n) (is := d) (by rw [pbs_len]; exact hn))
      have rc : (w.setCell ⟨g, n, none⟩ (.int .u8 (y - 1))).cell? ⟨b, 0, none⟩ = some (.pointer (some ⟨rb, 0, none⟩)) := by
        rw [cell_far _ _ _ _ (by exact ga)]; exact h0
      go_enter Tryd.func55, Tryd.ntmps55
      go_wp2_with fail
      refine (pins_none false HN.out).mono ?_
      rintro e w1000 ⟨rfl, rfl⟩
      go_wp2_with fail
      refine (pins_less M1.out M2.out).mono ?_
      rintro e w1 ⟨rfl, rfl⟩
      go_wp2_with fail
      refine (row_Set (pbs ms) _ _ ST.out.1 SS.out).mono ?_
      rintro e w2 ⟨rfl, hr2, hc2⟩
      rw [← HD.out, ← pbs_set] at hr2
      have R2 := Lib.hid (ST.out.2 _ hc2 hr2 (by omega))
      clear hr2 hc2
      go_wp2_with fail
      go_ret
      exact ⟨rfl, R2.out.1, R2.out.2⟩
    · rw [if_neg ht] at hr
      cases hr
      generalize nth ms n = y at *
      obtain ⟨m, hm⟩ : ∃ m, IntKind.u8.wrap (y - 1) = m := ⟨_, rfl⟩
      have M1 := Lib.hid hm
      have M2 := Lib.hid (show decide (0 < y) = false by simpa using ht)
      clear hm
      go_enter Tryd.func55, Tryd.ntmps55
      go_wp2_with fail
      refine (pins_none false HN.out).mono ?_
      rintro e w1000 ⟨rfl, rfl⟩
      go_wp2_with fail
      refine (pins_less M1.out M2.out).mono ?_
      rintro e w1 ⟨rfl, rfl⟩
      go_wp2_with fail
      go_ret
      exact ⟨rfl, H.out, Chg.refl _ _⟩
  · have hq : pturn true ms i = (ms, 2) := by unfold pturn; rw [if_neg hi]
    rw [hq] at hr
    cases hr
    exact (pins_turn_arg ms h hi).mono fun _ _ ⟨h1, h2⟩ => ⟨h1, h2 ▸ h, h2 ▸ Chg.refl _ _⟩

end Go.Proofs.YtfhnjecnamgpkaaDoor
