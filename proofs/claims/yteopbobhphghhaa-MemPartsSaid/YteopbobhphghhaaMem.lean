/-
  A memory's shape; mem's regions and parts.
-/
import Derived.Test.YteopbobhphghhaaChg
import Derived.Test.YteopbobhphghhaaMemP
import Derived.Test.YteopbobhphghhaaConf
import Derived.BigQuiet
namespace Go.Proofs.Yteopbobhphghhaa
open Go.RowKit

/-- A memory of configuration c with the words ws: its box b, its words' block gw, its bases' block gb. -/
structure MemAt (w : World) (b gw gb : Nat) (c : Conf) (ws : List Int) : Prop where
  ok : KOk c
  len : ws.length = totalN c
  words : ∃ cap, w.cell? ⟨b, 0, none⟩ = some (.slice (some ⟨gw, 0, none⟩) ws.length cap) ∧ ws.length ≤ cap ∧ cap ≤ maxLen
  bases : ∃ cap, w.cell? ⟨b, 1, none⟩ = some (.slice (some ⟨gb, 0, none⟩) (c.ts.length + 1) cap) ∧ c.ts.length + 1 ≤ cap ∧ cap ≤ maxLen
  row : At .u64 w (some ⟨gw, 0, none⟩) ws
  base : ∀ t, t ≤ c.ts.length → w.cell? ⟨gb, t, none⟩ = some (.int .i64 (baseN c t))
  fz : ∀ o, w.frozen? ⟨gw, o, none⟩ = false
  ne : b ≠ gw
  nb : gb ≠ gw

/-- The one block that what is done to a memory turns. -/
def isB (g k : Nat) : Prop := k = g
theorem MemAt.chg {P : Nat → Prop} {w w' : World} {b gw gb : Nat} {c : Conf} {ws : List Int} (h : MemAt w b gw gb c ws) (hx : Chg P w w') (hb : ¬ P b) (hw : ¬ P gw) (hg : ¬ P gb) : MemAt w' b gw gb c ws := by
  obtain ⟨cap, h0, h1⟩ := h.words
  obtain ⟨cap', g0, g1⟩ := h.bases
  refine ⟨h.ok, h.len, ⟨cap, hx.cell hb h0, h1⟩, ⟨cap', hx.cell hb g0, g1⟩, h.row.chg hx (fun b o e _ => by cases e; exact hw), fun t ht => hx.cell hg (h.base t ht), fun o => ?_, h.ne, h.nb⟩
  obtain ⟨b', o', e, hc⟩ := h.row 0 (by rw [h.len]; exact h.ok.total_pos)
  cases e
  rw [hx.frozen (p := ⟨gw, o, none⟩) (show gw < w.heap.size from cell_lt hc) hw]; exact h.fz o
theorem MemAt.ext {w w' : World} {b gw gb : Nat} {c : Conf} {ws : List Int} (h : MemAt w b gw gb c ws) (hx : Ext w w') : MemAt w' b gw gb c ws :=
  h.chg (P := fun _ => False) (Chg.of_ext hx) (fun a => a) (fun a => a) (fun a => a)
theorem MemAt.lt {w : World} {b gw gb : Nat} {c : Conf} {ws : List Int} (h : MemAt w b gw gb c ws) : b < w.heap.size ∧ gw < w.heap.size ∧ gb < w.heap.size := by
  obtain ⟨cap, h0, _⟩ := h.words
  obtain ⟨b', o', e, hc⟩ := h.row 0 (by rw [h.len]; exact h.ok.total_pos)
  cases e
  exact ⟨cell_lt h0, cell_lt hc, cell_lt (h.base 0 (Nat.zero_le _))⟩
theorem MemAt.word {w : World} {b gw gb : Nat} {c : Conf} {ws : List Int} (h : MemAt w b gw gb c ws) {i : Nat} (hi : i < ws.length) : w.cell? ⟨gw, i, none⟩ = some (.int .u64 (nth ws i)) := by
  obtain ⟨b', o', e, hc⟩ := h.row i hi
  cases e
  rwa [Nat.zero_add] at hc

/-- How mem gives up. -/
def gaveUp (k : Int) : Ending := .panicked [{ v := .iface 31 (.int .i64 k), recovered := false }]

set_option maxHeartbeats 1000000 in
theorem mem_none {b gw gb : Nat} {c : Conf} {ws : List Int} {w : World} (h : MemAt w b gw gb c ws) : Calls Try.prog 55 #[.pointer (some ⟨b, 0, none⟩)] w fun e w' => e = .returned (.bool false) ∧ w = w' := by
  obtain ⟨cap, h1, _⟩ := h.bases
  obtain ⟨n, hn⟩ : ∃ n, c.ts.length + 1 = n := ⟨_, rfl⟩
  rw [hn] at h1
  have t0 : ((n : Int) == 0) = false := by simp; omega
  clear h hn
  go_enter Try.func55, Try.ntmps55
  go_wp2_with fail
  go_ret
  exact ⟨rfl, rfl⟩
set_option maxHeartbeats 1000000 in
theorem mem_none_nil {w : World} : Calls Try.prog 55 #[.pointer none] w fun e w' => e = .returned (.bool true) ∧ w = w' := by
  go_enter Try.func55, Try.ntmps55
  go_wp2_with fail
  go_ret
  exact ⟨rfl, rfl⟩
/-- A memory that was never made. -/
def MemZ (w : World) (b : Nat) : Prop := w.cell? ⟨b, 0, none⟩ = some (.slice none 0 0) ∧ w.cell? ⟨b, 1, none⟩ = some (.slice none 0 0)
set_option maxHeartbeats 1000000 in
theorem mem_none_zero {b : Nat} {w : World} (h : MemZ w b) : Calls Try.prog 55 #[.pointer (some ⟨b, 0, none⟩)] w fun e w' => e = .returned (.bool true) ∧ w = w' := by
  obtain ⟨h0, h1⟩ := h
  go_enter Try.func55, Try.ntmps55
  go_wp2_with fail
  go_ret
  exact ⟨rfl, rfl⟩

/-- What region hands back. -/
def RegionPost (gw : Nat) (a n : Nat) (w : World) (e : Ending) (w' : World) : Prop := (∃ cap, e = .returned (.slice (some ⟨gw, a, none⟩) n cap) ∧ n ≤ cap ∧ cap ≤ maxLen) ∧ Ext w w'

set_option maxHeartbeats 4000000 in
theorem mem_region {b gw gb t : Nat} {c : Conf} {ws : List Int} {w : World} (h : MemAt w b gw gb c ws) (ht : t < c.ts.length) :
    Calls Try.prog 45 #[.pointer (some ⟨b, 0, none⟩), .int .i64 t] w (RegionPost gw (baseN c t) (wordsN c t) w) := by
  obtain ⟨cap, h0, hc1, hc2⟩ := h.words
  obtain ⟨cap', h1, _⟩ := h.bases
  have r0 := h.base t (by omega)
  have r1 := h.base (t + 1) ht
  have hs := h.ok.baseN_succ ht
  have hin := h.ok.region_in ht
  have mp := h.ok.words_pos ht
  have hl := h.len
  have tl := h.ok.total_le
  have H := Lib.hid h
  have t8 := h.ok.head.2.2.2.1
  clear h
  obtain ⟨n, hn⟩ : ∃ n, c.ts.length + 1 = n := ⟨_, rfl⟩
  rw [hn] at h1
  generalize baseN c t = a at *
  generalize baseN c (t + 1) = z at *
  generalize wordsN c t = m at *
  generalize totalN c = T at *
  generalize ws.length = L at *
  have t0 : decide ((t : Int) < 0) = false := by simp
  have t1 : decide ((n : Int) - 1 ≤ (t : Int)) = false := by simp; omega
  have hwn : IntKind.i64.wrap ((n : Int) - 1) = (n : Int) - 1 := IntWalk.i64_in _ (by omega)
  have hk0 : (0 : Int) ≤ (t : Int) := Int.natCast_nonneg _
  have hk1 : (t : Int) < (n : Int) := by omega
  have hk2 : (t : Int) + 1 < (n : Int) := by omega
  have hk3 : (0 : Int) ≤ (t : Int) + 1 := by omega
  have hw1 : IntKind.i64.wrap ((t : Int) + 1) = (t : Int) + 1 := IntWalk.i64_in _ (by omega)
  go_enter Try.func45, Try.ntmps45
  go_wp2_with fail
  refine (mem_none H.out).mono ?_
  rintro e w1000 ⟨rfl, rfl⟩
  go_wp2_with fail
  have s0 : (0 : Int) ≤ (a : Int) := Int.natCast_nonneg _
  have s1 : (a : Int) ≤ (z : Int) := by omega
  have s2 : (z : Int) ≤ (cap : Int) := by omega
  have s3 : (0 : Int) ≤ (z : Int) := Int.natCast_nonneg _
  go_quiet (fail)
  go_wp2_with fail
  go_ret
  exact ⟨⟨cap - a, by simp [Nat.add_sub_cancel_left], by omega, by omega⟩, (Ext.refl _).drewN _⟩
/-- What is refused: no such tenant; not all words there. -/
def regErr (c : Conf) (t : Int) : Int := if t < 0 ∨ (c.ts.length : Int) ≤ t then 2 else 0
def partErr (c : Conf) (t a n : Int) : Int := if t < 0 ∨ (c.ts.length : Int) ≤ t then 2 else if a < 0 ∨ n < 0 ∨ (wordsN c t.toNat : Int) < a ∨ (wordsN c t.toNat : Int) - a < n then 4 else 0

set_option maxHeartbeats 2000000 in
theorem mem_region_no {b gw gb : Nat} {t : Int} {c : Conf} {ws : List Int} {w : World} (h : MemAt w b gw gb c ws) (ht : t < 0 ∨ (c.ts.length : Int) ≤ t) :
    Calls Try.prog 45 #[.pointer (some ⟨b, 0, none⟩), .int .i64 t] w fun e w' => e = gaveUp 2 ∧ w = w' := by
  obtain ⟨cap', h1, _⟩ := h.bases
  have t8 := h.ok.head.2.2.2.1
  have H := Lib.hid h
  clear h
  obtain ⟨n, hn⟩ : ∃ n, c.ts.length + 1 = n := ⟨_, rfl⟩
  rw [hn] at h1
  have hwn : IntKind.i64.wrap ((n : Int) - 1) = (n : Int) - 1 := IntWalk.i64_in _ (by omega)
  by_cases h0 : t < 0
  · have t0 : decide (t < 0) = true := by simpa using h0
    clear ht
    go_enter Try.func45, Try.ntmps45
    go_wp2_with fail
    refine (mem_none H.out).mono ?_
    rintro e w1000 ⟨rfl, rfl⟩
    go_wp2_with fail
    exact ⟨rfl, rfl, rfl⟩
  · have t0 : decide (t < 0) = false := by simpa using h0
    have t1 : decide ((n : Int) - 1 ≤ t) = true := by simp; omega
    clear ht
    go_enter Try.func45, Try.ntmps45
    go_wp2_with fail
    refine (mem_none H.out).mono ?_
    rintro e w1000 ⟨rfl, rfl⟩
    go_wp2_with fail
    exact ⟨rfl, rfl, rfl⟩
set_option maxHeartbeats 4000000 in
theorem mem_part {b gw gb t a n : Nat} {c : Conf} {ws : List Int} {w : World} (h : MemAt w b gw gb c ws) (ht : t < c.ts.length) (ha : a + n ≤ wordsN c t) (hn : 1 ≤ n) :
    Calls Try.prog 47 #[.pointer (some ⟨b, 0, none⟩), .int .i64 t, .int .i64 a, .int .i64 n] w (RegionPost gw (baseN c t + a) n w) := by
  have hin := h.ok.region_in ht
  have tl := h.ok.total_le
  have H := Lib.hid h
  have HT := Lib.hid ht
  clear h ht
  go_enter Try.func47, Try.ntmps47
  go_wp2_with fail
  refine (mem_region H.out HT.out).mono ?_
  rintro e w1 ⟨⟨cap, rfl, hc1, hc2⟩, x⟩
  clear H HT
  generalize wordsN c t = m at *
  generalize baseN c t = z at *
  generalize totalN c = T at *
  have t0 : decide ((a : Int) < 0) = false := by simp
  have t1 : decide ((n : Int) < 0) = false := by simp
  have t2 : decide ((m : Int) < (a : Int)) = false := by simp; omega
  have t3 : decide ((m : Int) - (a : Int) < (n : Int)) = false := by simp; omega
  have w1 : IntKind.i64.wrap ((m : Int) - (a : Int)) = (m : Int) - (a : Int) := IntWalk.i64_in _ (by omega)
  have w2 : IntKind.i64.wrap ((a : Int) + (n : Int)) = (a : Int) + (n : Int) := IntWalk.i64_in _ (by omega)
  have s0 : (0 : Int) ≤ (a : Int) := Int.natCast_nonneg _
  have s1 : (a : Int) ≤ (a : Int) + (n : Int) := by omega
  have s2 : (a : Int) + (n : Int) ≤ (cap : Int) := by omega
  go_wp2_with fail
  go_ret
  exact ⟨⟨cap - a, by simp [Nat.add_sub_cancel_left], by omega, by omega⟩, x⟩
set_option maxHeartbeats 4000000 in
theorem mem_part0 {b gw gb t a : Nat} {c : Conf} {ws : List Int} {w : World} (h : MemAt w b gw gb c ws) (ht : t < c.ts.length) (ha : a ≤ wordsN c t) :
    Calls Try.prog 47 #[.pointer (some ⟨b, 0, none⟩), .int .i64 t, .int .i64 a, .int .i64 0] w fun e w' => (∃ p cap, e = .returned (.slice p 0 cap)) ∧ Ext w w' := by
  have hin := h.ok.region_in ht
  have tl := h.ok.total_le
  have H := Lib.hid h
  have HT := Lib.hid ht
  clear h ht
  go_enter Try.func47, Try.ntmps47
  go_wp2_with fail
  refine (mem_region H.out HT.out).mono ?_
  rintro e w1 ⟨⟨cap, rfl, hc1, hc2⟩, x⟩
  clear H HT
  generalize wordsN c t = m at *
  generalize baseN c t = z at *
  generalize totalN c = T at *
  have t0 : decide ((a : Int) < 0) = false := by simp
  have t2 : decide ((m : Int) < (a : Int)) = false := by simp; omega
  have t3 : decide ((m : Int) - (a : Int) < 0) = false := by simp; omega
  have w1 : IntKind.i64.wrap ((m : Int) - (a : Int)) = (m : Int) - (a : Int) := IntWalk.i64_in _ (by omega)
  have w2 : IntKind.i64.wrap (a : Int) = (a : Int) := IntWalk.i64_in _ (by omega)
  have s0 : (0 : Int) ≤ (a : Int) := Int.natCast_nonneg _
  have s2 : (a : Int) ≤ (cap : Int) := by omega
  go_wp2_with fail
  all_goals
    go_ret
    exact ⟨⟨_, _, by simp; exact ⟨rfl, rfl⟩⟩, x⟩
set_option maxHeartbeats 4000000 in
theorem mem_part_no {b gw gb : Nat} {t a n : Int} (k : Int) {c : Conf} {ws : List Int} {w : World} (h : MemAt w b gw gb c ws) (hk : partErr c t a n = k) (h0 : k ≠ 0) (ha : -9223372036854775808 ≤ a ∧ a ≤ 9223372036854775807) (hn : -9223372036854775808 ≤ n ∧ n ≤ 9223372036854775807) :
    Calls Try.prog 47 #[.pointer (some ⟨b, 0, none⟩), .int .i64 t, .int .i64 a, .int .i64 n] w fun e w' => e = gaveUp k ∧ Ext w w' := by
  have H := Lib.hid h
  unfold partErr at hk
  by_cases ht : t < 0 ∨ (c.ts.length : Int) ≤ t
  · rw [if_pos ht] at hk
    subst hk
    have HT := Lib.hid ht
    clear h ht
    go_enter Try.func47, Try.ntmps47
    go_wp2_with fail
    refine (mem_region_no H.out HT.out).mono ?_
    rintro e w1 ⟨rfl, rfl⟩
    unfold gaveUp
    exact ⟨rfl, rfl, Ext.refl _⟩
  · rw [if_neg ht] at hk
    obtain ⟨i, rfl⟩ : ∃ i : Nat, t = i := ⟨t.toNat, by omega⟩
    rw [Int.toNat_natCast] at hk
    have hi : i < c.ts.length := by omega
    have hin := h.ok.region_in hi
    have tl := h.ok.total_le
    have HT := Lib.hid hi
    clear h ht hi
    have hb : a < 0 ∨ n < 0 ∨ (wordsN c i : Int) < a ∨ (wordsN c i : Int) - a < n := by
      by_cases c0 : a < 0 ∨ n < 0 ∨ (wordsN c i : Int) < a ∨ (wordsN c i : Int) - a < n
      · exact c0
      · rw [if_neg c0] at hk; exact absurd hk.symm h0
    rw [if_pos hb] at hk
    subst hk
    by_cases c0 : a < 0
    · have t0 : decide (a < 0) = true := by simpa using c0
      clear hb c0
      go_enter Try.func47, Try.ntmps47
      go_wp2_with fail
      refine (mem_region H.out HT.out).mono ?_
      rintro e w1 ⟨⟨cap, rfl, hc1, hc2⟩, x⟩
      clear H HT
      generalize wordsN c i = m at *
      generalize baseN c i = z at *
      go_wp2_with fail
      unfold gaveUp
      exact ⟨rfl, rfl, x⟩
    · have t0 : decide (a < 0) = false := by simpa using c0
      by_cases c1 : n < 0
      · have t1 : decide (n < 0) = true := by simpa using c1
        clear hb c0 c1
        go_enter Try.func47, Try.ntmps47
        go_wp2_with fail
        refine (mem_region H.out HT.out).mono ?_
        rintro e w1 ⟨⟨cap, rfl, hc1, hc2⟩, x⟩
        clear H HT
        generalize wordsN c i = m at *
        generalize baseN c i = z at *
        go_wp2_with fail
        unfold gaveUp
        exact ⟨rfl, rfl, x⟩
      · have t1 : decide (n < 0) = false := by simpa using c1
        by_cases c2 : (wordsN c i : Int) < a
        · have t2 : decide ((wordsN c i : Int) < a) = true := by simpa using c2
          clear hb c0 c1 c2
          go_enter Try.func47, Try.ntmps47
          go_wp2_with fail
          refine (mem_region H.out HT.out).mono ?_
          rintro e w1 ⟨⟨cap, rfl, hc1, hc2⟩, x⟩
          clear H HT
          generalize wordsN c i = m at *
          generalize baseN c i = z at *
          go_wp2_with fail
          unfold gaveUp
          exact ⟨rfl, rfl, x⟩
        · have t2 : decide ((wordsN c i : Int) < a) = false := by simpa using c2
          have t3 : decide ((wordsN c i : Int) - a < n) = true := by simp; omega
          have ww : IntKind.i64.wrap ((wordsN c i : Int) - a) = (wordsN c i : Int) - a := IntWalk.i64_in _ (by omega)
          clear hb
          go_enter Try.func47, Try.ntmps47
          go_wp2_with fail
          refine (mem_region H.out HT.out).mono ?_
          rintro e w1 ⟨⟨cap, rfl, hc1, hc2⟩, x⟩
          clear H HT
          generalize wordsN c i = m at *
          generalize baseN c i = z at *
          go_wp2_with fail
          unfold gaveUp
          exact ⟨rfl, rfl, x⟩

end Go.Proofs.Yteopbobhphghhaa
