/-
  commonageref03: Unpack; commonagelaw03.awake.
-/
import Derived.Test.YtjdagameeopadaaRef03b
namespace Go.Proofs.Ytjdagameeopadaa
open Go.RowKit

set_option maxHeartbeats 2000000 in
theorem ref03_Unpack {a : Option Addr} {ca : Nat} (xs : List Int) (u : Int) (l : List Int) (q : Int) {w : World} (hpq : unpackR xs u = (l, q)) (h : At .i64 w a xs) (hl : xs.length ≤ maxLen) (h0 : 0 ≤ u) (h1 : u < 18446744073709551616) :
    Calls Try.prog 20 #[.slice a xs.length ca, .int .u64 u] w (Words2 l q w) := by
  obtain ⟨i0, hi0, hz0, hz1, hz2⟩ := info_parts info_u64
  have H := Lib.hid h; have HL := Lib.hid hl; have HU := Lib.hid h1
  unfold maxLen at hl
  clear h h1
  by_cases wk : Wok xs
  · have WK := Lib.hid wk
    have HA := Lib.hid (refAll_yes wk)
    have hs0 := wk.fr0 xs.length (Nat.le_refl _)
    have hpos := wk.pos
    have hl64 := wk.le64
    cases hf : fitsB u (fr xs xs.length)
    · rw [unpackR_five wk hf] at hpq
      cases hpq
      have HF := Lib.hid hf
      clear wk hf
      generalize fr xs xs.length = s at *
      go_enter Try.func20, Try.ntmps20
      go_wp2_with fail
      refine (ref03_All xs s HA.out H.out HL.out).mono ?_
      rintro e w1000 ⟨rfl, rfl⟩
      go_wp2_with fail
      refine (ref03_fits false h0 HU.out hs0.1 hs0.2 HF.out).mono ?_
      rintro e w1000 ⟨rfl, rfl⟩
      go_wp2_with fail
      go_ret2
      exact Words2.nil (Ext.refl w)
    · rw [unpackR_yes wk hf] at hpq
      cases hpq
      have HF := Lib.hid hf
      clear wk hf
      generalize fr xs xs.length = s at *
      go_enter Try.func20, Try.ntmps20
      go_wp2_with fail
      refine (ref03_All xs s HA.out H.out HL.out).mono ?_
      rintro e w1000 ⟨rfl, rfl⟩
      go_wp2_with fail
      refine (ref03_fits true h0 HU.out hs0.1 hs0.2 HF.out).mono ?_
      rintro e w1000 ⟨rfl, rfl⟩
      go_wp2_with fail
      go_loopw [7, 8, 9] (fun sv y i wr => ∃ k : Nat, k ≤ xs.length ∧ i = .int .i64 k ∧ y = .int .i64 (fr xs k) ∧ Hid (wr.ownsRow w.heap.size 22 1 sv k (ncs .u64 (unp xs u k))) ∧ Ext w wr) (fun _ _ i _ => xs.length - (intOf i).toNat)
      case atStart => exact ⟨0, Nat.zero_le _, rfl, rfl, World.ownsRow_nil _ _ _ _, Ext.refl w⟩
      case round =>
        obtain ⟨k, hk, rfl, rfl, HO, hx⟩ := hrel
        obtain ⟨wo, rfl⟩ : ∃ wo : World, wo = wr := ⟨_, rfl⟩
        by_cases hlt : k < xs.length
        · obtain ⟨x, o, rfl, hc⟩ := H.out.pos (by omega)
          have hck := hc k hlt
          have z1 := hx.cell hck
          have f0 := WK.out.fr0 k hk; have f1 := WK.out.fr0 (k + 1) hlt
          have HU2 := Lib.hid (show fr xs (k + 1) = fr xs k + nth xs k from rfl)
          rw [HU2.out] at f1
          have HG := Lib.hid (gget_at WK.out k hlt u)
          have HSN := Lib.hid (unp_succ xs u k)
          have hsz := hx.size
          clear hc
          generalize fr xs k = v at *
          generalize nth xs k = m at *
          generalize fgetI u v m = g at *
          have HCK := Lib.hid hck; clear hck
          have hm63 : k + 1 ≤ maxLen := by unfold maxLen; omega
          have HM := Lib.hid hm63; clear hm63
          go_wp2_with fail
          refine (ref03_Get g 0 h0 HU.out HG.out).mono ?_
          rintro e w1001 ⟨rfl, rfl⟩
          clear z1
          go_wp2_with (at_builtin; refine wpList_append_lies _ rfl (.tmp 36) (.tmp 38) 35 rfl w.heap.size 22 i0 (.int .u64 0) 1 8 Try.underlying35 hi0 hz0 hz1 hz2 rfl (by decide) _ k (ncs .u64 (unp xs u k)) rfl (HO.out.alloc _) ⟨wo.heap.size, 0, none⟩ 1 1 [.int .u64 g] rfl rfl (news1 _ _ _) (one1 rfl) (by omega) HM.out (by omega) (by simp; omega) (wo.heap.size + 1) (by simp) ?_; intro gg cap w2 hown2 hgrow hat hlt2; have HW := Lib.hid hown2; have hx2 := (hx.alloc (.cells #[.int .u64 g] 22)).grown hgrow fun k e => (HO.out.lt k e).1; have z2 := hx2.cell HCK.out; clear hown2 hgrow hat hlt2)
          go_roundw
          case rel => exact ⟨k + 1, by omega, by go_num, by rw [HU2.out], by unfold Hid; rw [HSN.out, ← ncs_snoc]; exact HW.out, hx2⟩
          case measure => simp [intOf]; omega
        · obtain rfl : k = xs.length := by omega
          have ho := HO.out
          obtain ⟨g, cap, rfl, g1, g2, g3, g4, g5, g6, g7⟩ := own_ints ho hpos
          have G6 := Lib.hid g6; have G7 := Lib.hid g7; have G3 := Lib.hid g3
          clear ho g6 g7 g3
          go_wp2_with fail
          go_ret2
          refine ⟨_, cap, ?_, ⟨G6.out, by rw [unp_len]; exact g4, g5, fun _ => ⟨g, rfl, g1, g2, G7.out⟩⟩, hx⟩
          rw [unp_len]; rfl
  · have HA := Lib.hid (refAll_no wk)
    rw [unpackR_bad1 wk] at hpq
    cases hpq
    clear wk
    go_enter Try.func20, Try.ntmps20
    go_wp2_with fail
    refine (ref03_All xs _ HA.out H.out HL.out).mono ?_
    rintro e w1000 ⟨rfl, rfl⟩
    go_wp2_with fail
    go_ret2
    exact Words2.nil (Ext.refl w)

set_option maxHeartbeats 2000000 in
theorem law03_awake (w : World) : Calls Try.prog 16 #[] w fun e w' => e = .returned (.bool true) ∧ Ext w w' := by
  have h1 := Ext.refl w
  go_enter Try.func16, Try.ntmps16
  go_wp2_with fail
  refine (field_Get 15 0 (by decide) (by decide) (by decide)).mono ?_
  rintro e w1 ⟨rfl, h2⟩
  replace h1 := h1.trans h2
  clear h2
  go_wp2_with fail
  refine (field_Get 0 2 (by decide) (by decide) (by decide)).mono ?_
  rintro e w2 ⟨rfl, h2⟩
  replace h1 := h1.trans h2
  clear h2
  go_wp2_with fail
  refine (field_Set 10376293541461622784 0 (by decide) (by decide) (by decide) (by decide) (by decide)).mono ?_
  rintro e w3 ⟨rfl, h2⟩
  replace h1 := h1.trans h2
  clear h2
  go_wp2_with fail
  refine (field_Set 0 4 (by decide) (by decide) (by decide) (by decide) (by decide)).mono ?_
  rintro e w4 ⟨rfl, h2⟩
  replace h1 := h1.trans h2
  clear h2
  go_wp2_with fail
  have hA : At .i64 ((w4.alloc (.cells #[.int .i64 8, .int .i64 4] 3)).alloc (.cells #[.int .u64 18, .int .u64 3] 22)) (some ⟨w4.heap.size, 0, none⟩) [8, 4] := (At.newb .i64 w4 [8, 4] _ _ rfl).ext ((Ext.refl _).alloc _)
  have hB : At .u64 ((w4.alloc (.cells #[.int .i64 8, .int .i64 4] 3)).alloc (.cells #[.int .u64 18, .int .u64 3] 22)) (some ⟨w4.heap.size + 1, 0, none⟩) [18, 3] := At.newb .u64 _ [18, 3] _ _ (by simp)
  have HA := Lib.hid hA; have HB := Lib.hid hB; clear hA hB
  replace h1 := (h1.alloc (.cells #[.int .i64 8, .int .i64 4] 3)).alloc (.cells #[.int .u64 18, .int .u64 3] 22)
  refine (field_Pack [8, 4] [18, 3] 786 0 (by decide +kernel) HA.out (by decide) HB.out (by decide) (by decide)).mono ?_
  rintro e w5 ⟨rfl, h2⟩
  replace h1 := h1.trans h2
  clear h2
  go_wp2_with fail
  clear HA HB
  have HA := Lib.hid (At.newb .i64 w5 [8, 4] 3 _ rfl)
  replace h1 := h1.alloc (.cells #[.int .i64 8, .int .i64 4] 3)
  refine (field_Unpack [8, 4] 786 [18, 3] 0 (by decide +kernel) HA.out (by decide) (by decide) (by decide)).mono ?_
  rintro e w6 ⟨la, lc, rfl, hn, h2⟩
  have HN := Lib.hid hn.row; clear hn HA
  replace h1 := h1.trans h2
  clear h2
  go_wp2_with fail
  have HA := Lib.hid (At.newb .i64 w6 [8, 4] 3 _ rfl)
  replace h1 := h1.alloc (.cells #[.int .i64 8, .int .i64 4] 3)
  refine (field_Unpack [8, 4] 4096 [] 5 (by decide +kernel) HA.out (by decide) (by decide) (by decide)).mono ?_
  rintro e w7 ⟨la2, lc2, rfl, hn, h2⟩
  replace HN := Lib.hid (HN.out.ext (((Ext.refl w6).alloc _).trans h2))
  clear hn HA
  replace h1 := h1.trans h2
  clear h2
  go_wp2_with fail
  have HB := Lib.hid (At.newb .u64 w7 [18, 3] 22 _ rfl)
  replace h1 := h1.alloc (.cells #[.int .u64 18, .int .u64 3] 22)
  refine (ref03_Same [18, 3] [18, 3] true (by decide) (HN.out.ext ((Ext.refl w7).alloc _)) HB.out (by decide) (by decide)).mono ?_
  rintro e w6 ⟨rfl, h2⟩
  replace h1 := h1.trans h2
  clear h2
  go_wp2_with fail
  go_ret
  exact ⟨rfl, h1⟩

end Go.Proofs.Ytjdagameeopadaa
