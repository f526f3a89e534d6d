/-
  pins: Pin, Unpin.
-/
import Derived.Test.YtfhnjecnamgpkaaDoorPins4
namespace Go.Proofs.YtfhnjecnamgpkaaDoor
open Go.RowKit

set_option maxHeartbeats 1000000 in
theorem pins_Pin {b rb rg g : Nat} {i : Int} (ms ms' : List Int) (q : Int) {w : World} (h : PinAt w b rb rg g ms) (hr : pturn false ms i = (ms', q)) :
    Calls Tryd.prog 34 #[.pointer (some ⟨b, 0, none⟩), .int .i64 i] w (TurnPost b rb rg g ms ms' q w) := by
  have H := Lib.hid h; have HR := Lib.hid hr; clear h hr
  go_enter Tryd.func34, Tryd.ntmps34
  go_wp2_with fail
  refine (pins_turn_more ms ms' q H.out HR.out).mono ?_
  rintro e w1 ⟨rfl, h1, h2⟩
  have P1 := Lib.hid h1; have C1 := Lib.hid h2
  clear h1 h2
  go_wp2_with fail
  go_ret
  exact ⟨rfl, P1.out, C1.out⟩
set_option maxHeartbeats 1000000 in
theorem pins_Unpin {b rb rg g : Nat} {i : Int} (ms ms' : List Int) (q : Int) {w : World} (h : PinAt w b rb rg g ms) (hr : pturn true ms i = (ms', q)) :
    Calls Tryd.prog 33 #[.pointer (some ⟨b, 0, none⟩), .int .i64 i] w (TurnPost b rb rg g ms ms' q w) := by
  have H := Lib.hid h; have HR := Lib.hid hr; clear h hr
  go_enter Tryd.func33, Tryd.ntmps33
  go_wp2_with fail
  refine (pins_turn_less ms ms' q H.out HR.out).mono ?_
  rintro e w1 ⟨rfl, h1, h2⟩
  have P1 := Lib.hid h1; have C1 := Lib.hid h2
  clear h1 h2
  go_wp2_with fail
  go_ret
  exact ⟨rfl, P1.out, C1.out⟩

end Go.Proofs.YtfhnjecnamgpkaaDoor
