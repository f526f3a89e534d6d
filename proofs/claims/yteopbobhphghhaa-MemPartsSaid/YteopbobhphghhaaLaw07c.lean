/-
  commonagelaw07: same; the walk of MemPlays.
-/
import Derived.Test.YteopbobhphghhaaLaw07b
import Derived.Test.YteopbobhphghhaaSameW
namespace Go.Proofs.Yteopbobhphghhaa
open Go.RowKit

theorem regErr_ok {c : Conf} {i : Nat} (h : i < c.ts.length) : regErr c i = 0 := by unfold regErr; rw [if_neg (by omega)]
theorem regErr_end (c : Conf) : regErr c ((c.ts.length : Nat) : Int) = 2 := by unfold regErr; rw [if_pos (by omega)]
theorem WordsAt.got {c : Conf} {ws : List Int} {i : Nat} {w w' : World} {sv : Value} (h : WordsAt c ws i 0 w w' sv) : ∃ a cap, sv = .slice a (regionL c ws i).length cap ∧ NewInts .u64 w w' a cap (regionL c ws i) := by
  rcases h with ⟨_, a, cap, rfl, hn⟩ | ⟨h, _⟩
  · exact ⟨a, cap, by rw [Int.toNat_natCast], by rwa [Int.toNat_natCast] at hn⟩
  · exact absurd rfl h
theorem WordsAt.none {c : Conf} {ws : List Int} {t k : Int} {w w' : World} {sv : Value} (h : WordsAt c ws t k w w' sv) (hk : k ≠ 0) : sv = .slice none 0 0 := by
  rcases h with ⟨h, _⟩ | ⟨_, h⟩
  · exact absurd h hk
  · exact h

set_option maxRecDepth 100000 in
set_option maxHeartbeats 8000000 in
theorem law07_same {P : Nat → Prop} {b gw gb d cap : Nat} {c : Conf} {ws : List Int} {w : World} (hm : MemAt w b gw gb c ws) (hd : DocAt P w d c ws) :
    Calls Try.prog 19 #[.pointer (some ⟨b, 0, none⟩), .agg #[.slice (some ⟨d, 0, none⟩) c.ts.length cap]] w fun e w' => e = .returned (.bool true) ∧ Ext w w' := by
  obtain ⟨z, hz⟩ : ∃ z, w.heap.size = z := ⟨_, rfl⟩
  have hx := (Ext.refl w).alloc (.cells #[.slice (some ⟨d, 0, none⟩) c.ts.length cap] 48)
  have BX := Lib.hid (box_new w (.slice (some ⟨d, 0, none⟩) c.ts.length cap) 48 hz)
  have t8 := hm.ok.head.2.2.2.1
  have tl := hm.ok.total_le
  have HM := Lib.hid hm; have HD := Lib.hid hd
  clear hm hd
  go_enter Try.func19, Try.ntmps19
  go_wp2_with fail
  go_loopw [5] (fun kv wr => ∃ k : Nat, k ≤ c.ts.length ∧ kv = .int .i64 k ∧ Ext (w.alloc (.cells #[.slice (some ⟨d, 0, none⟩) c.ts.length cap] 48)) wr) (fun kv _ => c.ts.length - (intOf kv).toNat)
  case atStart => exact ⟨0, Nat.zero_le _, rfl, Ext.refl _⟩
  case round =>
    obtain ⟨k, hk, rfl, h1⟩ := hrel
    have b0 := (box_up BX.out h1).1
    have X := Lib.hid h1
    clear h1
    by_cases hlt : k < c.ts.length
    · have RE := Lib.hid (regErr_ok hlt)
      have RL := Lib.hid (regionL_len HM.out.ok hlt HM.out.len)
      have win := HM.out.ok.region_in hlt
      obtain ⟨g, rc, g0⟩ := HD.out.row k hlt
      have GR := Lib.hid g0
      clear g0
      go_wp2_with fail
      refine (mem_Words (HM.out.ext (hx.trans X.out)) RE.out).mono ?_
      rintro e w2 ⟨sv, rfl, hw, x2⟩
      obtain ⟨a, ca, rfl, hn⟩ := hw.got
      have HN := Lib.hid hn
      replace X := Lib.hid (X.out.trans x2)
      clear b0 hw hn x2
      have b0 := (box_up BX.out X.out).1
      have g1 := (hx.trans X.out).cell GR.out.2.1
      rw [← RL.out] at g1
      go_wp2_with fail
      refine (ref03_Same (regionL c ws k) (regionL c ws k) true (by simp) HN.out.row (GR.out.2.2.ext (hx.trans X.out)) (by rw [RL.out]; unfold maxLen; omega) (by rw [RL.out]; unfold maxLen; omega)).mono ?_
      rintro e w3 ⟨rfl, x3⟩
      replace X := Lib.hid (X.out.trans x3)
      clear b0 g1 x3
      go_wp2_with fail
      go_roundw
      case rel => exact ⟨k + 1, by omega, by go_num, X.out⟩
      case measure => simp [intOf]; omega
    · obtain rfl : k = c.ts.length := by omega
      have RE := Lib.hid (regErr_end c)
      go_wp2_with fail
      refine (mem_Words (HM.out.ext (hx.trans X.out)) RE.out).mono ?_
      rintro e w2 ⟨sv, rfl, hw, x2⟩
      obtain rfl := hw.none (by decide)
      replace X := Lib.hid (X.out.trans x2)
      clear b0 hw x2
      have b0 := (box_up BX.out X.out).1
      go_wp2_with fail
      have WM := Lib.hid (show ws.length ≤ maxLen by rw [HM.out.len]; unfold maxLen; omega)
      have XX : Ext w w2 := hx.trans X.out
      have XD : Ext w w2.drew := XX.drew
      go_region_held3 (fun w' => w'.cell? ⟨z, 0, none⟩ = some (.slice (some ⟨d, 0, none⟩) c.ts.length cap))
        ((first | go_keep | (exact hE.cell (by assumption))))
        ((first
          | (go_at_call 20; refine (mem_All (HM.out.ext ?_)).mono ?_; assumption; rintro e w4 ⟨a4, c4, rfl, hn4, hE⟩; have hE4 := hE; have hX4 : Ext w w4 := Ext.trans (by assumption) hE)
          | (go_at_call 54; refine (ref07_All (HD.out.ext ?_)).mono ?_; assumption; rintro e w5 ⟨a5, c5, rfl, hn5, hE⟩; have hE5 := hE; have hX5 : Ext w w5 := Ext.trans (by assumption) hE)
          | (go_at_call 16; refine (ref03_Same ws ws true (by simp) ?_ ?_ WM.out WM.out).mono ?_; (first | exact hn4.row | exact hn4.row.ext hE5); (first | exact hn5.row | exact hn5.row.ext hE4); rintro e w6 ⟨rfl, hE⟩; have hX6 : Ext w w6 := Ext.trans (by assumption) hE)))
      all_goals
        go_wp2_with fail
        go_ret
        exact ⟨rfl, hX6⟩

end Go.Proofs.Yteopbobhphghhaa
