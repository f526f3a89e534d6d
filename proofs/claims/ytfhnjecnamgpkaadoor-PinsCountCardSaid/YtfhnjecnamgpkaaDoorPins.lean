/-
  pins: none, and what pins that are none answer.
-/
import Derived.Test.YtfhnjecnamgpkaaDoorLaw04f
namespace Go.Proofs.YtfhnjecnamgpkaaDoor
open Go.RowKit

/-- Are these pins none? -/
def PNone (w : World) (p : Option Addr) (m : Bool) : Prop := (p = none ∧ m = true) ∨ ∃ b q, p = some ⟨b, 0, none⟩ ∧ w.cell? ⟨b, 0, none⟩ = some (.pointer q) ∧ m = q.isNone
theorem PNone.ext {w w' : World} {p : Option Addr} {m : Bool} (h : PNone w p m) (hx : Ext w w') : PNone w' p m := by
  rcases h with h | ⟨b, q, e, hc, e2⟩
  · exact .inl h
  · exact .inr ⟨b, q, e, hx.cell hc, e2⟩

set_option maxHeartbeats 1000000 in
theorem pins_none {p : Option Addr} (m : Bool) {w : World} (h : PNone w p m) : Calls Tryd.prog 54 #[.pointer p] w fun e w' => e = .returned (.bool m) ∧ w = w' := by
  rcases h with ⟨rfl, rfl⟩ | ⟨b, q, rfl, hc, rfl⟩
  · go_enter Tryd.func54, Tryd.ntmps54
    go_wp2_with fail
    go_ret
    exact ⟨rfl, rfl⟩
  · cases q with
    | none =>
      go_enter Tryd.func54, Tryd.ntmps54
      go_wp2_with fail
      go_ret
      exact ⟨rfl, rfl⟩
    | some q =>
      go_enter Tryd.func54, Tryd.ntmps54
      go_wp2_with fail
      go_ret
      exact ⟨rfl, rfl⟩

set_option maxHeartbeats 1000000 in
theorem pins_Count_no {p : Option Addr} {i : Int} {w : World} (h : PNone w p true) : Calls Tryd.prog 35 #[.pointer p, .int .i64 i] w fun e w' => e = .returned (.int .i64 0) ∧ w = w' := by
  go_enter Tryd.func35, Tryd.ntmps35
  go_wp2_with fail
  refine (pins_none true h).mono ?_
  rintro e w1000 ⟨rfl, rfl⟩
  go_wp2_with fail
  go_ret
  exact ⟨rfl, rfl⟩
set_option maxHeartbeats 1000000 in
theorem pins_Next_no {p : Option Addr} {i : Int} {w : World} (h : PNone w p true) : Calls Tryd.prog 36 #[.pointer p, .int .i64 i] w fun e w' => e = .returned (.tuple #[.int .i64 0, .bool false]) ∧ w = w' := by
  go_enter Tryd.func36, Tryd.ntmps36
  go_wp2_with fail
  refine (pins_none true h).mono ?_
  rintro e w1000 ⟨rfl, rfl⟩
  go_wp2_with fail
  go_ret2
  exact ⟨rfl, rfl⟩
set_option maxHeartbeats 1000000 in
theorem pins_Any_no {p : Option Addr} {w : World} (h : PNone w p true) : Calls Tryd.prog 37 #[.pointer p] w fun e w' => e = .returned (.int .i64 0) ∧ w = w' := by
  go_enter Tryd.func37, Tryd.ntmps37
  go_wp2_with fail
  refine (pins_none true h).mono ?_
  rintro e w1000 ⟨rfl, rfl⟩
  go_wp2_with fail
  go_ret
  exact ⟨rfl, rfl⟩
set_option maxHeartbeats 1000000 in
theorem pins_Len_no {p : Option Addr} {w : World} (h : PNone w p true) : Calls Tryd.prog 32 #[.pointer p] w fun e w' => e = .returned (.int .i64 0) ∧ w = w' := by
  go_enter Tryd.func32, Tryd.ntmps32
  go_wp2_with fail
  refine (pins_none true h).mono ?_
  rintro e w1000 ⟨rfl, rfl⟩
  go_wp2_with fail
  go_ret
  exact ⟨rfl, rfl⟩
set_option maxHeartbeats 1000000 in
theorem pins_Copy_no {p : Option Addr} {w : World} (h : PNone w p true) : Calls Tryd.prog 40 #[.pointer p] w fun e w' => e = .returned (.pointer none) ∧ w = w' := by
  go_enter Tryd.func40, Tryd.ntmps40
  go_wp2_with fail
  refine (pins_none true h).mono ?_
  rintro e w1000 ⟨rfl, rfl⟩
  go_wp2_with fail
  go_ret
  exact ⟨rfl, rfl⟩

set_option maxHeartbeats 1000000 in
theorem pins_turn_no {p : Option Addr} {i : Int} {v : Value} {w : World} (h : PNone w p true) : Calls Tryd.prog 55 #[.pointer p, .int .i64 i, v] w fun e w' => e = .returned (.int .i64 1) ∧ w = w' := by
  go_enter Tryd.func55, Tryd.ntmps55
  go_wp2_with fail
  refine (pins_none true h).mono ?_
  rintro e w1000 ⟨rfl, rfl⟩
  go_wp2_with fail
  go_ret
  exact ⟨rfl, rfl⟩
set_option maxHeartbeats 1000000 in
theorem pins_Pin_no {p : Option Addr} {i : Int} {w : World} (h : PNone w p true) : Calls Tryd.prog 34 #[.pointer p, .int .i64 i] w fun e w' => e = .returned (.int .i64 1) ∧ w = w' := by
  go_enter Tryd.func34, Tryd.ntmps34
  go_wp2_with fail
  refine (pins_turn_no h).mono ?_
  rintro e w1000 ⟨rfl, rfl⟩
  go_wp2_with fail
  go_ret
  exact ⟨rfl, rfl⟩
set_option maxHeartbeats 1000000 in
theorem pins_Unpin_no {p : Option Addr} {i : Int} {w : World} (h : PNone w p true) : Calls Tryd.prog 33 #[.pointer p, .int .i64 i] w fun e w' => e = .returned (.int .i64 1) ∧ w = w' := by
  go_enter Tryd.func33, Tryd.ntmps33
  go_wp2_with fail
  refine (pins_turn_no h).mono ?_
  rintro e w1000 ⟨rfl, rfl⟩
  go_wp2_with fail
  go_ret
  exact ⟨rfl, rfl⟩
set_option maxHeartbeats 1000000 in
theorem pins_All_no {p : Option Addr} {w : World} (h : PNone w p true) : Calls Tryd.prog 44 #[.pointer p] w fun e w' => e = .returned (.slice none 0 0) ∧ w = w' := by
  go_enter Tryd.func44, Tryd.ntmps44
  go_wp2_with fail
  refine (pins_Next_no h).mono ?_
  rintro e w1000 ⟨rfl, rfl⟩
  go_wp2_with fail
  refine wp_loop_rounds 1 ?_
  rw [rounds_succ]
  go_wp2_with fail
  go_ret
  exact ⟨rfl, rfl⟩

end Go.Proofs.YtfhnjecnamgpkaaDoor
