/-
  Merged texts: Mem, MemOn, CloneW, CloneI, MemW, Ref05C, Ref06.
-/
import Derived.Test.YtnbngcagnchkdaaDoorQ02
import Derived.Test.YtnbngcagnchkdaaDoorQ01
import Derived.BigQuiet
import Derived.Defers
import Derived.Recover
import Derived.Laws.Pointers
import Derived.Test.YtnbngcagnchkdaaDoorChecked
import Derived.Outline
import Derived.Deep.QuietTactic
import Derived.Deep.OwnRows
import Derived.Lib.SliceRun
import Derived.Laws.OwnMore
import Derived.Deep.RegionHeld3
import Derived.Deep.RegionWith
set_option linter.unusedVariables false
set_option linter.unusedSimpArgs false
/-! A memory's shape; mem's regions and parts. -/
namespace Go.Proofs.YtnbngcagnchkdaaDoor
open Go.RowKit

/-- A memory of configuration c with the words ws: its box b, its words' block gw, its bases' block gb. -/
structure MemAt (w : World) (b gw gb : Nat) (c : Conf) (ws : List Int) : Prop where
  ok : KOk c
  len : ws.length = totalN c
  words : ∃ cap, w.cell? ⟨b, 0, none⟩ = some (.slice (some ⟨gw, 0, none⟩) ws.length cap) ∧ ws.length ≤ cap ∧ cap ≤ maxLen
  bases : ∃ cap, w.cell? ⟨b, 1, none⟩ = some (.slice (some ⟨gb, 0, none⟩) (c.ts.length + 1) cap) ∧ c.ts.length + 1 ≤ cap ∧ cap ≤ maxLen
  row : At .u64 w (some ⟨gw, 0, none⟩) ws
  base : ∀ t, t ≤ c.ts.length → w.cell? ⟨gb, t, none⟩ = some (.int .i64 (baseN c t))
  fz : ∀ o, w.frozen? ⟨gw, o, none⟩ = false
  ne : b ≠ gw
  nb : gb ≠ gw

/-- The one block that what is done to a memory turns. -/
def isB (g k : Nat) : Prop := k = g
theorem MemAt.chg {P : Nat → Prop} {w w' : World} {b gw gb : Nat} {c : Conf} {ws : List Int} (h : MemAt w b gw gb c ws) (hx : Chg P w w') (hb : ¬ P b) (hw : ¬ P gw) (hg : ¬ P gb) : MemAt w' b gw gb c ws := by
  obtain ⟨cap, h0, h1⟩ := h.words
  obtain ⟨cap', g0, g1⟩ := h.bases
  refine ⟨h.ok, h.len, ⟨cap, hx.cell hb h0, h1⟩, ⟨cap', hx.cell hb g0, g1⟩, h.row.chg hx (fun b o e _ => by cases e; exact hw), fun t ht => hx.cell hg (h.base t ht), fun o => ?_, h.ne, h.nb⟩
  obtain ⟨b', o', e, hc⟩ := h.row 0 (by rw [h.len]; exact h.ok.total_pos)
  cases e
  rw [hx.frozen (p := ⟨gw, o, none⟩) (show gw < w.heap.size from cell_lt hc) hw]; exact h.fz o
theorem MemAt.ext {w w' : World} {b gw gb : Nat} {c : Conf} {ws : List Int} (h : MemAt w b gw gb c ws) (hx : Ext w w') : MemAt w' b gw gb c ws :=
  h.chg (P := fun _ => False) (Chg.of_ext hx) (fun a => a) (fun a => a) (fun a => a)
theorem MemAt.lt {w : World} {b gw gb : Nat} {c : Conf} {ws : List Int} (h : MemAt w b gw gb c ws) : b < w.heap.size ∧ gw < w.heap.size ∧ gb < w.heap.size := by
  obtain ⟨cap, h0, _⟩ := h.words
  obtain ⟨b', o', e, hc⟩ := h.row 0 (by rw [h.len]; exact h.ok.total_pos)
  cases e
  exact ⟨cell_lt h0, cell_lt hc, cell_lt (h.base 0 (Nat.zero_le _))⟩
theorem MemAt.word {w : World} {b gw gb : Nat} {c : Conf} {ws : List Int} (h : MemAt w b gw gb c ws) {i : Nat} (hi : i < ws.length) : w.cell? ⟨gw, i, none⟩ = some (.int .u64 (nth ws i)) := by
  obtain ⟨b', o', e, hc⟩ := h.row i hi
  cases e
  rwa [Nat.zero_add] at hc

/-- How mem gives up. -/
def gaveUp (k : Int) : Ending := .panicked [{ v := .iface 45 (.int .i64 k), recovered := false }]

set_option maxHeartbeats 1000000 in
theorem mem_none {b gw gb : Nat} {c : Conf} {ws : List Int} {w : World} (h : MemAt w b gw gb c ws) : Calls Tryd.prog 81 #[.pointer (some ⟨b, 0, none⟩)] w fun e w' => e = .returned (.bool false) ∧ w = w' := by
  obtain ⟨cap, h1, _⟩ := h.bases
  obtain ⟨n, hn⟩ : ∃ n, c.ts.length + 1 = n := ⟨_, rfl⟩
  rw [hn] at h1
  have t0 : ((n : Int) == 0) = false := by simp; omega
  clear h hn
  go_enter Tryd.func81, Tryd.ntmps81
  go_wp2_with fail
  go_ret
  exact ⟨rfl, rfl⟩
set_option maxHeartbeats 1000000 in
theorem mem_none_nil {w : World} : Calls Tryd.prog 81 #[.pointer none] w fun e w' => e = .returned (.bool true) ∧ w = w' := by
  go_enter Tryd.func81, Tryd.ntmps81
  go_wp2_with fail
  go_ret
  exact ⟨rfl, rfl⟩
/-- A memory that was never made. -/
def MemZ (w : World) (b : Nat) : Prop := w.cell? ⟨b, 0, none⟩ = some (.slice none 0 0) ∧ w.cell? ⟨b, 1, none⟩ = some (.slice none 0 0)
set_option maxHeartbeats 1000000 in
theorem mem_none_zero {b : Nat} {w : World} (h : MemZ w b) : Calls Tryd.prog 81 #[.pointer (some ⟨b, 0, none⟩)] w fun e w' => e = .returned (.bool true) ∧ w = w' := by
  obtain ⟨h0, h1⟩ := h
  go_enter Tryd.func81, Tryd.ntmps81
  go_wp2_with fail
  go_ret
  exact ⟨rfl, rfl⟩

/-- What region hands back. -/
def RegionPost (gw : Nat) (a n : Nat) (w : World) (e : Ending) (w' : World) : Prop := (∃ cap, e = .returned (.slice (some ⟨gw, a, none⟩) n cap) ∧ n ≤ cap ∧ cap ≤ maxLen) ∧ Ext w w'

set_option maxHeartbeats 4000000 in
theorem mem_region {b gw gb t : Nat} {c : Conf} {ws : List Int} {w : World} (h : MemAt w b gw gb c ws) (ht : t < c.ts.length) :
    Calls Tryd.prog 54 #[.pointer (some ⟨b, 0, none⟩), .int .i64 t] w (RegionPost gw (baseN c t) (wordsN c t) w) := by
  obtain ⟨cap, h0, hc1, hc2⟩ := h.words
  obtain ⟨cap', h1, _⟩ := h.bases
  have r0 := h.base t (by omega)
  have r1 := h.base (t + 1) ht
  have hs := h.ok.baseN_succ ht
  have hin := h.ok.region_in ht
  have mp := h.ok.words_pos ht
  have hl := h.len
  have tl := h.ok.total_le
  have H := Lib.hid h
  have t8 := h.ok.head.2.2.2.1
  clear h
  obtain ⟨n, hn⟩ : ∃ n, c.ts.length + 1 = n := ⟨_, rfl⟩
  rw [hn] at h1
  generalize baseN c t = a at *
  generalize baseN c (t + 1) = z at *
  generalize wordsN c t = m at *
  generalize totalN c = T at *
  generalize ws.length = L at *
  have t0 : decide ((t : Int) < 0) = false := by simp
  have t1 : decide ((n : Int) - 1 ≤ (t : Int)) = false := by simp; omega
  have hwn : IntKind.i64.wrap ((n : Int) - 1) = (n : Int) - 1 := IntWalk.i64_in _ (by omega)
  have hk0 : (0 : Int) ≤ (t : Int) := Int.natCast_nonneg _
  have hk1 : (t : Int) < (n : Int) := by omega
  have hk2 : (t : Int) + 1 < (n : Int) := by omega
  have hk3 : (0 : Int) ≤ (t : Int) + 1 := by omega
  have hw1 : IntKind.i64.wrap ((t : Int) + 1) = (t : Int) + 1 := IntWalk.i64_in _ (by omega)
  go_enter Tryd.func54, Tryd.ntmps54
  go_wp2_with fail
  refine (mem_none H.out).mono ?_
  rintro e w1000 ⟨rfl, rfl⟩
  go_wp2_with fail
  have s0 : (0 : Int) ≤ (a : Int) := Int.natCast_nonneg _
  have s1 : (a : Int) ≤ (z : Int) := by omega
  have s2 : (z : Int) ≤ (cap : Int) := by omega
  have s3 : (0 : Int) ≤ (z : Int) := Int.natCast_nonneg _
  go_quiet (fail)
  go_wp2_with fail
  go_ret
  exact ⟨⟨cap - a, by simp [Nat.add_sub_cancel_left], by omega, by omega⟩, (Ext.refl _).drewN _⟩
/-- What is refused: no such tenant; not all words there. -/
def regErr (c : Conf) (t : Int) : Int := if t < 0 ∨ (c.ts.length : Int) ≤ t then 2 else 0
def partErr (c : Conf) (t a n : Int) : Int := if t < 0 ∨ (c.ts.length : Int) ≤ t then 2 else if a < 0 ∨ n < 0 ∨ (wordsN c t.toNat : Int) < a ∨ (wordsN c t.toNat : Int) - a < n then 4 else 0

set_option maxHeartbeats 2000000 in
theorem mem_region_no {b gw gb : Nat} {t : Int} {c : Conf} {ws : List Int} {w : World} (h : MemAt w b gw gb c ws) (ht : t < 0 ∨ (c.ts.length : Int) ≤ t) :
    Calls Tryd.prog 54 #[.pointer (some ⟨b, 0, none⟩), .int .i64 t] w fun e w' => e = gaveUp 2 ∧ w = w' := by
  obtain ⟨cap', h1, _⟩ := h.bases
  have t8 := h.ok.head.2.2.2.1
  have H := Lib.hid h
  clear h
  obtain ⟨n, hn⟩ : ∃ n, c.ts.length + 1 = n := ⟨_, rfl⟩
  rw [hn] at h1
  have hwn : IntKind.i64.wrap ((n : Int) - 1) = (n : Int) - 1 := IntWalk.i64_in _ (by omega)
  by_cases h0 : t < 0
  · have t0 : decide (t < 0) = true := by simpa using h0
    clear ht
    go_enter Tryd.func54, Tryd.ntmps54
    go_wp2_with fail
    refine (mem_none H.out).mono ?_
    rintro e w1000 ⟨rfl, rfl⟩
    go_wp2_with fail
    exact ⟨rfl, rfl, rfl⟩
  · have t0 : decide (t < 0) = false := by simpa using h0
    have t1 : decide ((n : Int) - 1 ≤ t) = true := by simp; omega
    clear ht
    go_enter Tryd.func54, Tryd.ntmps54
    go_wp2_with fail
    refine (mem_none H.out).mono ?_
    rintro e w1000 ⟨rfl, rfl⟩
    go_wp2_with fail
    exact ⟨rfl, rfl, rfl⟩
set_option maxHeartbeats 4000000 in
theorem mem_part {b gw gb t a n : Nat} {c : Conf} {ws : List Int} {w : World} (h : MemAt w b gw gb c ws) (ht : t < c.ts.length) (ha : a + n ≤ wordsN c t) (hn : 1 ≤ n) :
    Calls Tryd.prog 60 #[.pointer (some ⟨b, 0, none⟩), .int .i64 t, .int .i64 a, .int .i64 n] w (RegionPost gw (baseN c t + a) n w) := by
  have hin := h.ok.region_in ht
  have tl := h.ok.total_le
  have H := Lib.hid h
  have HT := Lib.hid ht
  clear h ht
  go_enter Tryd.func60, Tryd.ntmps60
  go_wp2_with fail
  refine (mem_region H.out HT.out).mono ?_
  rintro e w1 ⟨⟨cap, rfl, hc1, hc2⟩, x⟩
  clear H HT
  generalize wordsN c t = m at *
  generalize baseN c t = z at *
  generalize totalN c = T at *
  have t0 : decide ((a : Int) < 0) = false := by simp
  have t1 : decide ((n : Int) < 0) = false := by simp
  have t2 : decide ((m : Int) < (a : Int)) = false := by simp; omega
  have t3 : decide ((m : Int) - (a : Int) < (n : Int)) = false := by simp; omega
  have w1 : IntKind.i64.wrap ((m : Int) - (a : Int)) = (m : Int) - (a : Int) := IntWalk.i64_in _ (by omega)
  have w2 : IntKind.i64.wrap ((a : Int) + (n : Int)) = (a : Int) + (n : Int) := IntWalk.i64_in _ (by omega)
  have s0 : (0 : Int) ≤ (a : Int) := Int.natCast_nonneg _
  have s1 : (a : Int) ≤ (a : Int) + (n : Int) := by omega
  have s2 : (a : Int) + (n : Int) ≤ (cap : Int) := by omega
  go_wp2_with fail
  go_ret
  exact ⟨⟨cap - a, by simp [Nat.add_sub_cancel_left], by omega, by omega⟩, x⟩
set_option maxHeartbeats 4000000 in
theorem mem_part0 {b gw gb t a : Nat} {c : Conf} {ws : List Int} {w : World} (h : MemAt w b gw gb c ws) (ht : t < c.ts.length) (ha : a ≤ wordsN c t) :
    Calls Tryd.prog 60 #[.pointer (some ⟨b, 0, none⟩), .int .i64 t, .int .i64 a, .int .i64 0] w fun e w' => (∃ p cap, e = .returned (.slice p 0 cap)) ∧ Ext w w' := by
  have hin := h.ok.region_in ht
  have tl := h.ok.total_le
  have H := Lib.hid h
  have HT := Lib.hid ht
  clear h ht
  go_enter Tryd.func60, Tryd.ntmps60
  go_wp2_with fail
  refine (mem_region H.out HT.out).mono ?_
  rintro e w1 ⟨⟨cap, rfl, hc1, hc2⟩, x⟩
  clear H HT
  generalize wordsN c t = m at *
  generalize baseN c t = z at *
  generalize totalN c = T at *
  have t0 : decide ((a : Int) < 0) = false := by simp
  have t2 : decide ((m : Int) < (a : Int)) = false := by simp; omega
  have t3 : decide ((m : Int) - (a : Int) < 0) = false := by simp; omega
  have w1 : IntKind.i64.wrap ((m : Int) - (a : Int)) = (m : Int) - (a : Int) := IntWalk.i64_in _ (by omega)
  have w2 : IntKind.i64.wrap (a : Int) = (a : Int) := IntWalk.i64_in _ (by omega)
  have s0 : (0 : Int) ≤ (a : Int) := Int.natCast_nonneg _
  have s2 : (a : Int) ≤ (cap : Int) := by omega
  go_wp2_with fail
  all_goals
    go_ret
    exact ⟨⟨_, _, by simp; exact ⟨rfl, rfl⟩⟩, x⟩
set_option maxHeartbeats 4000000 in
theorem mem_part_no {b gw gb : Nat} {t a n : Int} (k : Int) {c : Conf} {ws : List Int} {w : World} (h : MemAt w b gw gb c ws) (hk : partErr c t a n = k) (h0 : k ≠ 0) (ha : -9223372036854775808 ≤ a ∧ a ≤ 9223372036854775807) (hn : -9223372036854775808 ≤ n ∧ n ≤ 9223372036854775807) :
    Calls Tryd.prog 60 #[.pointer (some ⟨b, 0, none⟩), .int .i64 t, .int .i64 a, .int .i64 n] w fun e w' => e = gaveUp k ∧ Ext w w' := by
  have H := Lib.hid h
  unfold partErr at hk
  by_cases ht : t < 0 ∨ (c.ts.length : Int) ≤ t
  · rw [if_pos ht] at hk
    subst hk
    have HT := Lib.hid ht
    clear h ht
    go_enter Tryd.func60, Tryd.ntmps60
    go_wp2_with fail
    refine (mem_region_no H.out HT.out).mono ?_
    rintro e w1 ⟨rfl, rfl⟩
    unfold gaveUp
    exact ⟨rfl, rfl, Ext.refl _⟩
  · rw [if_neg ht] at hk
    obtain ⟨i, rfl⟩ : ∃ i : Nat, t = i := ⟨t.toNat, by omega⟩
    rw [Int.toNat_natCast] at hk
    have hi : i < c.ts.length := by omega
    have hin := h.ok.region_in hi
    have tl := h.ok.total_le
    have HT := Lib.hid hi
    clear h ht hi
    have hb : a < 0 ∨ n < 0 ∨ (wordsN c i : Int) < a ∨ (wordsN c i : Int) - a < n := by
      by_cases c0 : a < 0 ∨ n < 0 ∨ (wordsN c i : Int) < a ∨ (wordsN c i : Int) - a < n
      · exact c0
      · rw [if_neg c0] at hk; exact absurd hk.symm h0
    rw [if_pos hb] at hk
    subst hk
    by_cases c0 : a < 0
    · have t0 : decide (a < 0) = true := by simpa using c0
      clear hb c0
      go_enter Tryd.func60, Tryd.ntmps60
      go_wp2_with fail
      refine (mem_region H.out HT.out).mono ?_
      rintro e w1 ⟨⟨cap, rfl, hc1, hc2⟩, x⟩
      clear H HT
      generalize wordsN c i = m at *
      generalize baseN c i = z at *
      go_wp2_with fail
      unfold gaveUp
      exact ⟨rfl, rfl, x⟩
    · have t0 : decide (a < 0) = false := by simpa using c0
      by_cases c1 : n < 0
      · have t1 : decide (n < 0) = true := by simpa using c1
        clear hb c0 c1
        go_enter Tryd.func60, Tryd.ntmps60
        go_wp2_with fail
        refine (mem_region H.out HT.out).mono ?_
        rintro e w1 ⟨⟨cap, rfl, hc1, hc2⟩, x⟩
        clear H HT
        generalize wordsN c i = m at *
        generalize baseN c i = z at *
        go_wp2_with fail
        unfold gaveUp
        exact ⟨rfl, rfl, x⟩
      · have t1 : decide (n < 0) = false := by simpa using c1
        by_cases c2 : (wordsN c i : Int) < a
        · have t2 : decide ((wordsN c i : Int) < a) = true := by simpa using c2
          clear hb c0 c1 c2
          go_enter Tryd.func60, Tryd.ntmps60
          go_wp2_with fail
          refine (mem_region H.out HT.out).mono ?_
          rintro e w1 ⟨⟨cap, rfl, hc1, hc2⟩, x⟩
          clear H HT
          generalize wordsN c i = m at *
          generalize baseN c i = z at *
          go_wp2_with fail
          unfold gaveUp
          exact ⟨rfl, rfl, x⟩
        · have t2 : decide ((wordsN c i : Int) < a) = false := by simpa using c2
          have t3 : decide ((wordsN c i : Int) - a < n) = true := by simp; omega
          have ww : IntKind.i64.wrap ((wordsN c i : Int) - a) = (wordsN c i : Int) - a := IntWalk.i64_in _ (by omega)
          clear hb
          go_enter Tryd.func60, Tryd.ntmps60
          go_wp2_with fail
          refine (mem_region H.out HT.out).mono ?_
          rintro e w1 ⟨⟨cap, rfl, hc1, hc2⟩, x⟩
          clear H HT
          generalize wordsN c i = m at *
          generalize baseN c i = z at *
          go_wp2_with fail
          unfold gaveUp
          exact ⟨rfl, rfl, x⟩

end Go.Proofs.YtnbngcagnchkdaaDoor

/-! mem.on: what gives up within is told as an error. -/
namespace Go.Proofs.YtnbngcagnchkdaaDoor
open Go.RowKit

set_option maxRecDepth 100000 in
set_option maxHeartbeats 2000000 in
theorem on1_panicking (p : Addr) (k x : Int) (older : List PanicEntry) (w : World) (hc : w.cell? p = some (.int .i64 x)) (hz : w.frozen? p = false) :
    CallsD Tryd.prog 80 #[.pointer (some p)] (.panicking ({ v := .iface 45 (.int .i64 k), recovered := false } :: older)) w fun e u' w' =>
      e = .returned (.tuple #[]) ∧ u' = .panicking ({ v := .iface 45 (.int .i64 k), recovered := true } :: older) ∧ w' = w.setCell p (.int .i64 k) := by
  have hta : ∀ w : World, (Instr.typeAssert (.iface 45 (.int .i64 k)) 20 45 true).run Tryd.prog w = .ok (.tuple #[.int .i64 k, .bool true]) w := fun _ => by kernel_rfl
  refine callsD_of_wpS Tryd.func80 rfl fun c₀ cs hu => ?_
  apply wpS_seq
  apply wpS_region
  simp [wpOpsS, go_sem, recoverD, hu, Tryd.ntmps80, Exit.thenS]
  refine wpS_of_wp ?_
  simp only [Array.replicate_succ, Array.replicate_zero, List.push_toArray, List.append_toArray, List.nil_append, List.cons_append, List.setIfInBounds_toArray, List.set_cons_zero, List.set_cons_succ]
  go_wp2
  cases c₀
  simp_all [bodyPostS, results, Tryd.results80]

theorem on1_idle (p : Addr) (w : World) :
    CallsD Tryd.prog 80 #[.pointer (some p)] .returning w fun e u' w' => e = .returned (.tuple #[]) ∧ u' = .returning ∧ w' = w := by
  refine callsD_of_wpS Tryd.func80 rfl fun c₀ cs hu => ?_
  apply wpS_seq
  apply wpS_region
  simp [wpOpsS, go_sem, recoverD, hu, Tryd.ntmps80, Exit.thenS]
  refine wpS_of_wp ?_
  simp only [Array.replicate_succ, Array.replicate_zero, List.push_toArray, List.append_toArray, List.nil_append, List.cons_append, List.setIfInBounds_toArray, List.set_cons_zero, List.set_cons_succ]
  go_wp2
  cases c₀
  simp_all [bodyPostS, results, Tryd.results80]

/-- A call within 'on': it ends well, or gives up. -/
def within (k : Int) (e : Ending) : Prop := (k = 0 ∧ e = .returned (.tuple #[])) ∨ (k ≠ 0 ∧ e = gaveUp k)

set_option maxRecDepth 100000 in
set_option maxHeartbeats 2000000 in
theorem mem_on {g : Nat} {cs : Array Value} (k : Int) {w : World} {R : World → Prop} (hk : Enters Tryd.prog g)
    (h : Calls Tryd.prog g cs (w.alloc (.cells #[.int .i64 0] 45)) fun e w' => within k e ∧ R w' ∧ w'.cell? ⟨w.heap.size, 0, none⟩ = some (.int .i64 0) ∧ w'.frozen? ⟨w.heap.size, 0, none⟩ = false) :
    Calls Tryd.prog 51 #[.func (.func g) #[] cs] w fun e w' => e = .returned (.int .i64 k) ∧ ∃ w1, R w1 ∧ w' = w1.setCell ⟨w.heap.size, 0, none⟩ (.int .i64 k) := by
  have hmf : ∀ (fn : Fn) (first cap : Array Value) (w : World), (Instr.makeFunc fn first cap).run Tryd.prog w = .ok (.func fn first cap) w := fun _ _ _ _ => rfl
  unfold Enters at hk
  have HC := Lib.hid h
  clear h
  go_enter_defers Tryd.func51, Tryd.ntmps51
  go_wp2_with fail
  refine HC.out.mono ?_
  rintro e w1 ⟨hw, hr, hc, hz⟩
  have HR := Lib.hid hr
  clear hr HC
  rcases hw with ⟨rfl, rfl⟩ | ⟨hk0, rfl⟩
  · go_wp2_with fail
    refine leaves_cons (f := 80) (args := #[.pointer (some ⟨w.heap.size, 0, none⟩)]) (by simp) (by simp [go_sem]) ?_
    refine (on1_idle ⟨w.heap.size, 0, none⟩ _).mono ?_
    rintro e u' w'' ⟨rfl, rfl, rfl⟩
    have hc2 := World.cell?_setCell_same w1 ⟨w.heap.size, 0, none⟩ (.int .i64 0) hc
    simp [Leaves, settle, results, Tryd.results51, go_sem, hc2]
    exact ⟨w1, HR.out, rfl⟩
  · unfold gaveUp
    refine leaves_cons (f := 80) (args := #[.pointer (some ⟨w.heap.size, 0, none⟩)]) (by simp) (by simp [go_sem]) ?_
    refine (on1_panicking ⟨w.heap.size, 0, none⟩ k 0 [] _ hc hz).mono ?_
    rintro e u' w'' ⟨rfl, rfl, rfl⟩
    have hc2 := World.cell?_setCell_same w1 ⟨w.heap.size, 0, none⟩ (.int .i64 k) hc
    simp [Leaves, settle, results, Tryd.results51, go_sem, hc2]
    exact ⟨w1, HR.out, rfl⟩

/-- .. of worlds that differ in some blocks. -/
theorem mem_on' {g z : Nat} {cs : Array Value} (k : Int) {w : World} {P : Nat → Prop} {S : World → Prop} (hk : Enters Tryd.prog g) (hz : w.heap.size = z) (hP : ¬ P z)
    (h : Calls Tryd.prog g cs (w.alloc (.cells #[.int .i64 0] 45)) fun e w' => within k e ∧ Chg P (w.alloc (.cells #[.int .i64 0] 45)) w' ∧ S w') (hS : ∀ w', S w' → S (w'.setCell ⟨z, 0, none⟩ (.int .i64 k))) :
    Calls Tryd.prog 51 #[.func (.func g) #[] cs] w fun e w' => e = .returned (.int .i64 k) ∧ Chg P w w' ∧ S w' := by
  subst hz
  have c0 := cell_new1 w (.int .i64 0) 45
  have f0 : (w.alloc (.cells #[.int .i64 0] 45)).frozen? ⟨w.heap.size, 0, none⟩ = false := World.frozen?_alloc_at _ _ _ _ rfl
  refine (mem_on (R := fun w' => Chg P w w' ∧ S w') k hk (h.mono ?_)).mono ?_
  · rintro e w' ⟨h1, h2, h3⟩
    exact ⟨h1, ⟨((Chg.refl P w).alloc _).trans h2, h3⟩, h2.cell hP c0, by rw [h2.frozen (p := ⟨w.heap.size, 0, none⟩) (cell_lt c0) hP]; exact f0⟩
  · rintro e w' ⟨rfl, w1, ⟨h1, h2⟩, rfl⟩
    exact ⟨rfl, h1.setCell (.inr (Nat.le_refl _)) _, hS _ h2⟩

end Go.Proofs.YtnbngcagnchkdaaDoor

/-! slices.Clone of words: words of its own. -/
namespace Go.Proofs.YtnbngcagnchkdaaDoor
open Go.RowKit

theorem info_w64 : (Tryd.prog.info? 26).map (fun i => (i.zero, i.size, i.bytes)) = some (some (.int .u64 0), 1, 8) := by kernel_rfl
set_option maxHeartbeats 1000000 in
theorem clone_words {a : Option Addr} {cap : Nat} (xs : List Int) {w : World} (h : At .u64 w a xs) (hb : xs.length * 8 ≤ 140737488355328) :
    Calls Tryd.prog 53 #[.slice a xs.length cap] w (ClonedInts .u64 xs w) := by
  obtain ⟨i0, hi0, hz0, hz1, hz2⟩ := info_parts info_w64
  have he : ∀ (a : Option Addr) n c (w : World), (binOp .eql 56 (.slice a n c) (.slice none 0 0)).run Tryd.prog w = .ok (.bool a.isNone) w := fun a n c w => Lib.run_eql_slice_nil w _ _ a n c 0 0 Tryd.underlying56
  cases a with
  | none =>
    have hl : xs.length = 0 := by
      rcases Nat.eq_zero_or_pos xs.length with c | c
      · exact c
      · obtain ⟨b, o, e, _⟩ := h.pos c; cases e
    obtain rfl := List.length_eq_zero_iff.1 hl
    clear h
    go_enter Tryd.func53, Tryd.ntmps53
    go_wp2_with fail
    go_ret
    exact ⟨none, 0, rfl, ⟨fun i hi => absurd hi (Nat.not_lt_zero _), Nat.le_refl _, Nat.zero_le _, fun hi => absurd hi (Nat.lt_irrefl 0)⟩, Ext.refl w⟩
  | some ad =>
    have hnews : ∀ j u, (ncs .u64 xs)[j]? = some u → w.cell? (ad.add j) = some u := by
      intro j u hj
      have hl := (List.getElem?_eq_some_iff.1 hj).1
      rw [ncs_len] at hl
      obtain ⟨b, o, e, hc⟩ := h.pos (by omega)
      cases e
      exact ncs_news hc j u hj
    have HN := Lib.hid hnews; clear hnews h
    have hn63 : xs.length ≤ maxLen := by unfold maxLen; omega
    have HM := Lib.hid hn63; clear hn63
    go_enter Tryd.func53, Tryd.ntmps53
    go_wp2_with (at_builtin; refine wpList_append_own _ rfl (.tmp 5) (.tmp 6) 56 rfl w.heap.size 26 i0 (.int .u64 0) 1 8 Tryd.underlying56 hi0 hz0 hz1 hz2 rfl (by decide) (.slice (some ⟨w.heap.size, 0, none⟩) 0 0) 0 [] rfl (World.ownsRow_made _ #[] 0 (Nat.le_refl _) (by decide) rfl) ad xs.length cap (ncs .u64 xs) rfl (by rw [ncs_len, Nat.mul_one]) (fun j u hj => cell_alloc (HN.out j u hj) _) (ncs_one _ _) (by rw [Nat.zero_add]; exact HM.out) (by rw [Nat.zero_add]; exact hb) (by simp) ?_; intro v' w1 hown hgrow hnil)
    go_ret
    rw [Nat.zero_add, List.nil_append] at hown
    have hx : Ext w w1 := Ext.of (((Ext.refl w).alloc (.cells #[] 26)).below.grown hgrow (by simp) (fun k e => by cases e; exact Nat.le_refl _))
    obtain ⟨a', c', rfl, hn⟩ := newInts_of hown
    exact ⟨a', c', rfl, hn, hx⟩

end Go.Proofs.YtnbngcagnchkdaaDoor

/-! slices.Clone of numbers: numbers of its own. -/
namespace Go.Proofs.YtnbngcagnchkdaaDoor
open Go.RowKit

theorem info_int : (Tryd.prog.info? 3).map (fun i => (i.zero, i.size, i.bytes)) = some (some (.int .i64 0), 1, 8) := by kernel_rfl
end Go.Proofs.YtnbngcagnchkdaaDoor

/-! mem's Load, Store, Zero, Words, All, Copy. -/
namespace Go.Proofs.YtnbngcagnchkdaaDoor
open Go.RowKit

theorem partErr_ok {c : Conf} {t a n : Int} (h : partErr c t a n = 0) : ∃ i j m : Nat, t = i ∧ a = j ∧ n = m ∧ i < c.ts.length ∧ j + m ≤ wordsN c i := by
  unfold partErr at h
  split at h
  · cases h
  · rename_i h1
    split at h
    · cases h
    · rename_i h2
      refine ⟨t.toNat, a.toNat, n.toNat, by omega, by omega, by omega, by omega, by omega⟩
theorem partErr_mk {c : Conf} {i j m : Nat} (hi : i < c.ts.length) (h : j + m ≤ wordsN c i) : partErr c i j m = 0 := by
  unfold partErr
  rw [if_neg (by omega), if_neg (by simp; omega)]
def is64 (a : Int) : Prop := -9223372036854775808 ≤ a ∧ a ≤ 9223372036854775807

/-! ### Load -/
def loadR (c : Conf) (ws : List Int) (t a : Int) : Int × Int := if partErr c t a 1 = 0 then (nth ws (baseN c t.toNat + a.toNat), 0) else (0, partErr c t a 1)
theorem enters_load1 : Enters Tryd.prog 59 := Enters.mk Tryd.func59 (by kernel_rfl) rfl

set_option maxHeartbeats 4000000 in
theorem mem_Load1 {b gw gb : Nat} {t a : Int} (v k : Int) {c : Conf} {ws : List Int} {w : World} (h : MemAt w b gw gb c ws) (ha : is64 a) (hr : loadR c ws t a = (v, k)) (pm pt pa pw : Nat)
    (c0 : w.cell? ⟨pm, 0, none⟩ = some (.pointer (some ⟨b, 0, none⟩))) (c1 : w.cell? ⟨pt, 0, none⟩ = some (.int .i64 t)) (c2 : w.cell? ⟨pa, 0, none⟩ = some (.int .i64 a)) (c3 : w.cell? ⟨pw, 0, none⟩ = some (.int .u64 0)) (f3 : w.frozen? ⟨pw, 0, none⟩ = false) :
    Calls Tryd.prog 59 #[.pointer (some ⟨pm, 0, none⟩), .pointer (some ⟨pt, 0, none⟩), .pointer (some ⟨pa, 0, none⟩), .pointer (some ⟨pw, 0, none⟩)] w
      fun e w' => within k e ∧ Chg (isB pw) w w' ∧ w'.cell? ⟨pw, 0, none⟩ = some (.int .u64 v) ∧ w'.frozen? ⟨pw, 0, none⟩ = false := by
  have H := Lib.hid h
  have HA := Lib.hid ha
  have C3 := Lib.hid c3; have F3 := Lib.hid f3
  unfold loadR at hr
  by_cases hp : partErr c t a 1 = 0
  · rw [if_pos hp] at hr
    cases hr
    obtain ⟨i, j, m, rfl, rfl, hm, hi, hj⟩ := partErr_ok hp
    have hin := h.ok.region_in hi
    have hl := h.len
    have hword := h.word (i := baseN c i + j) (by omega)
    have hm1 : m = 1 := by omega
    subst hm1
    have PP := Lib.hid (mem_part h hi hj (Nat.le_refl 1))
    have HW := Lib.hid hword
    clear h hp hin hl hi hj ha hm hword c3 f3
    simp only [Int.toNat_natCast]
    go_enter Tryd.func59, Tryd.ntmps59
    go_wp2_with fail
    refine PP.out.mono ?_
    rintro e w1 ⟨⟨cap, rfl, hc1, hc2⟩, x⟩
    have d3 := x.cell C3.out
    have g3 := x.frozenAt C3.out F3.out
    have hw := x.cell HW.out
    go_wp2_with fail
    go_end0
    exact ⟨.inl ⟨rfl, rfl⟩, Chg.setCell (P := isB pw) (Chg.of_ext x) (.inl (show isB pw pw from rfl)) _, World.cell?_setCell_same _ _ _ d3, by simpa using g3⟩
  · rw [if_neg hp] at hr
    cases hr
    have PP := Lib.hid (mem_part_no _ h rfl hp ha (show is64 1 from ⟨by omega, by omega⟩))
    have HP := Lib.hid hp
    clear h hp ha c3 f3
    go_enter Tryd.func59, Tryd.ntmps59
    go_wp2_with fail
    refine PP.out.mono ?_
    rintro e w1 ⟨rfl, x⟩
    have d3 := x.cell C3.out
    have g3 := x.frozenAt C3.out F3.out
    exact ⟨rfl, .inr ⟨HP.out, rfl⟩, Chg.of_ext x, d3, g3⟩

theorem box_new (w : World) (v : Value) (t : TypeId) {b : Nat} (hb : w.heap.size = b) : (w.alloc (.cells #[v] t)).cell? ⟨b, 0, none⟩ = some v ∧ (w.alloc (.cells #[v] t)).frozen? ⟨b, 0, none⟩ = false := by
  subst hb
  exact ⟨cell_new1 w v t, World.frozen?_alloc_at _ _ _ _ rfl⟩
theorem box_up {w w' : World} {p : Addr} {v : Value} (h : w.cell? p = some v ∧ w.frozen? p = false) (hx : Ext w w') : w'.cell? p = some v ∧ w'.frozen? p = false :=
  ⟨hx.cell h.1, hx.frozenAt h.1 h.2⟩
/-- Five boxes, one behind the other. -/
theorem five_boxes (w : World) (v0 v1 v2 v3 v4 : Value) (t0 t1 t2 t3 t4 : TypeId) {z : Nat} (hz : w.heap.size = z) {W : World} (hW : ((((w.alloc (.cells #[v0] t0)).alloc (.cells #[v1] t1)).alloc (.cells #[v2] t2)).alloc (.cells #[v3] t3)).alloc (.cells #[v4] t4) = W) :
    (W.cell? ⟨z, 0, none⟩ = some v0 ∧ W.frozen? ⟨z, 0, none⟩ = false) ∧ (W.cell? ⟨z + 1, 0, none⟩ = some v1 ∧ W.frozen? ⟨z + 1, 0, none⟩ = false) ∧ (W.cell? ⟨z + 1 + 1, 0, none⟩ = some v2 ∧ W.frozen? ⟨z + 1 + 1, 0, none⟩ = false) ∧
    (W.cell? ⟨z + 1 + 1 + 1, 0, none⟩ = some v3 ∧ W.frozen? ⟨z + 1 + 1 + 1, 0, none⟩ = false) ∧ (W.cell? ⟨z + 1 + 1 + 1 + 1, 0, none⟩ = some v4 ∧ W.frozen? ⟨z + 1 + 1 + 1 + 1, 0, none⟩ = false) ∧ Ext w W := by
  subst hz hW
  have x : ∀ (W : World) o, Ext W (W.alloc o) := fun W o => (Ext.refl W).alloc o
  refine ⟨?_, ?_, ?_, ?_, box_new _ _ _ (by simp), ((((x _ _).trans (x _ _)).trans (x _ _)).trans (x _ _)).trans (x _ _)⟩
  · exact box_up (box_new w v0 t0 rfl) ((((x _ _).trans (x _ _)).trans (x _ _)).trans (x _ _))
  · exact box_up (box_new _ v1 t1 (by simp)) (((x _ _).trans (x _ _)).trans (x _ _))
  · exact box_up (box_new _ v2 t2 (by simp)) ((x _ _).trans (x _ _))
  · exact box_up (box_new _ v3 t3 (by simp)) (x _ _)

set_option maxHeartbeats 4000000 in
theorem mem_Load {b gw gb : Nat} {t a : Int} (v k : Int) {c : Conf} {ws : List Int} {w : World} (h : MemAt w b gw gb c ws) (ha : is64 a) (hr : loadR c ws t a = (v, k)) :
    Calls Tryd.prog 32 #[.pointer (some ⟨b, 0, none⟩), .int .i64 t, .int .i64 a] w fun e w' => e = .returned (.tuple #[.int .u64 v, .int .i64 k]) ∧ Ext w w' := by
  have hmf : ∀ (fn : Fn) (first cap : Array Value) (w : World), (Instr.makeFunc fn first cap).run Tryd.prog w = .ok (.func fn first cap) w := fun _ _ _ _ => rfl
  obtain ⟨z, hz⟩ : ∃ z, w.heap.size = z := ⟨_, rfl⟩
  obtain ⟨⟨c0, _⟩, ⟨c1, _⟩, ⟨c2, _⟩, ⟨c3, f3⟩, _, hx⟩ := five_boxes w (.pointer (some ⟨b, 0, none⟩)) (.int .i64 t) (.int .i64 a) (.int .u64 0) (.int .i64 0) 32 3 3 26 45 hz rfl
  have L1 := Lib.hid (mem_on' (z := z + 1 + 1 + 1 + 1) (P := isB (z + 1 + 1 + 1)) (S := fun w' => w'.cell? ⟨z + 1 + 1 + 1, 0, none⟩ = some (.int .u64 v) ∧ w'.frozen? ⟨z + 1 + 1 + 1, 0, none⟩ = false) k enters_load1 (by simp [hz]) (by unfold isB; omega)
    (mem_Load1 v k (h.ext hx) ha hr z (z + 1) (z + 1 + 1) (z + 1 + 1 + 1) c0 c1 c2 c3 f3) (fun w' q => ⟨by rw [cell_far _ _ _ _ (by simp)]; exact q.1, by simpa using q.2⟩))
  have HZ := Lib.hid hz
  clear c0 c1 c2 c3 f3 hx h ha hr
  go_enter Tryd.func32, Tryd.ntmps32
  go_wp2_with fail
  refine L1.out.mono ?_
  rintro e w1 ⟨rfl, hc, c3, f3⟩
  go_wp2_with fail
  have d3 := World.cell?_setCell_same w1 ⟨z + 1 + 1 + 1, 0, none⟩ (.int .u64 v) c3
  refine bodyPost_ret (v := .tuple #[.int .u64 v, .int .i64 k]) (by simp [results, Tryd.results32, go_sem, d3]) rfl ⟨rfl, ?_⟩
  refine (Chg.setCell (P := isB (z + 1 + 1 + 1)) (p := ⟨z + 1 + 1 + 1, 0, none⟩) hc (.inl rfl) _).over ((((Ext.refl w).alloc _).alloc _).alloc _ |>.alloc _) (fun j hj => ?_)
  have := HZ.out
  unfold isB at hj
  omega

/-! ### Store -/
def storeR (c : Conf) (ws : List Int) (t a x : Int) : List Int × Int := if partErr c t a 1 = 0 then (ws.set (baseN c t.toNat + a.toNat) x, 0) else (ws, partErr c t a 1)
theorem storeR_len (c : Conf) (ws : List Int) (t a x : Int) : (storeR c ws t a x).1.length = ws.length := by
  unfold storeR; split <;> simp
theorem MemAt.set {w : World} {b gw gb i : Nat} {c : Conf} {ws : List Int} (h : MemAt w b gw gb c ws) (hi : i < ws.length) (x : Int) : MemAt (w.setCell ⟨gw, i, none⟩ (.int .u64 x)) b gw gb c (ws.set i x) := by
  obtain ⟨cap, h0, h1⟩ := h.words
  obtain ⟨cap', g0, g1⟩ := h.bases
  have n1 := h.ne; have n2 := h.nb
  refine ⟨h.ok, by rw [List.length_set]; exact h.len, ⟨cap, ?_, by rw [List.length_set]; exact h1⟩, ⟨cap', ?_, g1⟩, h.row.set hi x, fun t ht => ?_, fun o => by simpa using h.fz o, n1, n2⟩
  · rw [cell_far _ _ _ _ (by show gw ≠ b; omega), List.length_set]; exact h0
  · rw [cell_far _ _ _ _ (by show gw ≠ b; omega)]; exact g0
  · rw [cell_far _ _ _ _ (by show gw ≠ gb; omega)]; exact h.base t ht
theorem enters_store1 : Enters Tryd.prog 69 := Enters.mk Tryd.func69 (by kernel_rfl) rfl

set_option maxHeartbeats 4000000 in
theorem mem_Store1 {b gw gb : Nat} {t a x k : Int} {c : Conf} {ws ws' : List Int} {w : World} (h : MemAt w b gw gb c ws) (ha : is64 a) (hr : storeR c ws t a x = (ws', k)) (pw pm pt pa : Nat)
    (c0 : w.cell? ⟨pm, 0, none⟩ = some (.pointer (some ⟨b, 0, none⟩))) (c1 : w.cell? ⟨pt, 0, none⟩ = some (.int .i64 t)) (c2 : w.cell? ⟨pa, 0, none⟩ = some (.int .i64 a)) (c3 : w.cell? ⟨pw, 0, none⟩ = some (.int .u64 x)) (n0 : gw ≠ pm) (n1 : gw ≠ pt) (n2 : gw ≠ pa) (n3 : gw ≠ pw) :
    Calls Tryd.prog 69 #[.pointer (some ⟨pw, 0, none⟩), .pointer (some ⟨pm, 0, none⟩), .pointer (some ⟨pt, 0, none⟩), .pointer (some ⟨pa, 0, none⟩)] w
      fun e w' => within k e ∧ Chg (isB gw) w w' ∧ MemAt w' b gw gb c ws' := by
  have H := Lib.hid h
  have hd : Ext w w.drew := (Ext.refl w).drew
  unfold storeR at hr
  by_cases hp : partErr c t a 1 = 0
  · rw [if_pos hp] at hr
    cases hr
    obtain ⟨i, j, m, rfl, rfl, hm, hi, hj⟩ := partErr_ok hp
    have hin := h.ok.region_in hi
    have hl := h.len
    have hword := h.word (i := baseN c i + j) (by omega)
    have hbj := Lib.hid (show baseN c i + j < ws.length by omega)
    have hf := h.fz (baseN c i + j)
    have hm1 : m = 1 := by omega
    subst hm1
    have PP := Lib.hid (mem_part (h.ext hd) hi hj (Nat.le_refl 1))
    have HW := Lib.hid hword; have HF := Lib.hid hf
    clear h hp hin hl hi hj ha hm hword hf
    simp only [Int.toNat_natCast]
    go_enter Tryd.func69, Tryd.ntmps69
    go_wp2_with fail
    go_region_held3 (fun w' => w'.cell? ⟨pm, 0, none⟩ = some (.pointer (some ⟨b, 0, none⟩)) ∧ w'.cell? ⟨pt, 0, none⟩ = some (.int .i64 i) ∧ w'.cell? ⟨pa, 0, none⟩ = some (.int .i64 j) ∧ w'.cell? ⟨pw, 0, none⟩ = some (.int .u64 x))
      ((first | with_reducible exact ⟨hE.cell c0, hE.cell c1, hE.cell c2, hE.cell c3⟩ | exact ⟨(cell_far _ _ _ _ n0).trans (hE.cell c0), (cell_far _ _ _ _ n1).trans (hE.cell c1), (cell_far _ _ _ _ n2).trans (hE.cell c2), (cell_far _ _ _ _ n3).trans (hE.cell c3)⟩ | go_keep))
      ((go_at_call 60; refine PP.out.mono ?_; rintro e w1 ⟨⟨cap, rfl, hc1, hc2⟩, xx⟩; have hE := hd.trans xx; have hw := hE.cell HW.out; have hff := hE.frozenAt HW.out HF.out))
    go_end0
    exact ⟨.inl ⟨rfl, rfl⟩, Chg.setCell (P := isB gw) (p := ⟨gw, baseN c i + j, none⟩) (Chg.of_ext hE) (.inl rfl) _, (H.out.ext hE).set hbj.out x⟩
  · rw [if_neg hp] at hr
    cases hr
    have PP := Lib.hid (mem_part_no _ (h.ext hd) rfl hp ha (show is64 1 from ⟨by omega, by omega⟩))
    have HP := Lib.hid hp
    clear h hp ha
    go_enter Tryd.func69, Tryd.ntmps69
    go_wp2_with fail
    refine wp_region_held_drew (S := (fun w' => w'.cell? ⟨pm, 0, none⟩ = some (.pointer (some ⟨b, 0, none⟩)) ∧ w'.cell? ⟨pt, 0, none⟩ = some (.int .i64 t) ∧ w'.cell? ⟨pa, 0, none⟩ = some (.int .i64 a) ∧ w'.cell? ⟨pw, 0, none⟩ = some (.int .u64 x))) (by kernel_rfl) ?_ (fun hHeld => ?_)
    focus ((try dsimp only); go_keep)
    refine wpAnyH_take (i := 0) (v := ?_) rfl (by kernel_rfl) (by kernel_rfl) (by kernel_rfl) (fun _ _ _ h => h) (Or.inl ⟨by rfl, ?_⟩) (by assumption) ?_
    rotate_left
    focus (intro w hSw; (try dsimp only at hSw); go_simp; try with_reducible rfl)
    try simp only [Act.put, List.setIfInBounds_toArray, List.set_cons_zero, List.set_cons_succ]
    refine wpAnyH_take (i := 1) (v := ?_) rfl (by kernel_rfl) (by kernel_rfl) (by kernel_rfl) (fun _ _ _ h => h) (Or.inl ⟨by rfl, ?_⟩) (by assumption) ?_
    rotate_left
    focus (intro w hSw; (try dsimp only at hSw); go_simp; try with_reducible rfl)
    try simp only [Act.put, List.setIfInBounds_toArray, List.set_cons_zero, List.set_cons_succ]
    refine wpAnyH_take (i := 2) (v := ?_) rfl (by kernel_rfl) (by kernel_rfl) (by kernel_rfl) (fun _ _ _ h => h) (Or.inl ⟨by rfl, ?_⟩) (by assumption) ?_
    rotate_left
    focus (intro w hSw; (try dsimp only at hSw); go_simp; try with_reducible rfl)
    try simp only [Act.put, List.setIfInBounds_toArray, List.set_cons_zero, List.set_cons_succ]
    refine wpAnyH_take (i := 4) (v := ?_) rfl (by kernel_rfl) (by kernel_rfl) (by kernel_rfl) (fun _ _ _ h => h) (Or.inl ⟨by rfl, ?_⟩) (by assumption) ?_
    rotate_left
    focus (intro w hSw; (try dsimp only at hSw); go_simp; try with_reducible rfl)
    try simp only [Act.put, List.setIfInBounds_toArray, List.set_cons_zero, List.set_cons_succ]
    refine wpAnyH_ready (rs := [3]) (by kernel_rfl) (by simp) ?_
    refine AllReadyH.cons (i := 3) rfl (fun K hK => ?_) AllReadyH.nil
    go_simp
    go_at_call 60
    refine PP.out.mono ?_
    rintro e w1 ⟨rfl, xx⟩
    exact ⟨rfl, .inr ⟨HP.out, rfl⟩, Chg.of_ext (hd.trans xx), H.out.ext (hd.trans xx)⟩

theorem MemAt.near {w w' : World} {b gw gb : Nat} {c : Conf} {ws : List Int} (h : MemAt w b gw gb c ws) (hx : Ext w w') {z : Nat} (hz : w.heap.size ≤ z) (u : Value) : MemAt (w'.setCell ⟨z, 0, none⟩ u) b gw gb c ws := by
  have l := h.lt
  exact h.chg (P := isB z) (Chg.setCell (P := isB z) (p := ⟨z, 0, none⟩) (Chg.of_ext hx) (.inl rfl) u) (by unfold isB; omega) (by unfold isB; omega) (by unfold isB; omega)
theorem MemAt.far {w : World} {b gw gb z : Nat} {c : Conf} {ws : List Int} (h : MemAt w b gw gb c ws) (h0 : b ≠ z) (h1 : gw ≠ z) (h2 : gb ≠ z) (u : Value) : MemAt (w.setCell ⟨z, 0, none⟩ u) b gw gb c ws :=
  h.chg (P := isB z) (Chg.setCell (P := isB z) (p := ⟨z, 0, none⟩) (Chg.refl _ w) (.inl rfl) u) h0 h1 h2

set_option maxHeartbeats 4000000 in
theorem mem_Store {b gw gb : Nat} {t a x k : Int} {c : Conf} {ws ws' : List Int} {w : World} (h : MemAt w b gw gb c ws) (ha : is64 a) (hr : storeR c ws t a x = (ws', k)) :
    Calls Tryd.prog 40 #[.pointer (some ⟨b, 0, none⟩), .int .i64 t, .int .i64 a, .int .u64 x] w fun e w' => e = .returned (.int .i64 k) ∧ Chg (isB gw) w w' ∧ MemAt w' b gw gb c ws' := by
  have hmf : ∀ (fn : Fn) (first cap : Array Value) (w : World), (Instr.makeFunc fn first cap).run Tryd.prog w = .ok (.func fn first cap) w := fun _ _ _ _ => rfl
  obtain ⟨z, hz⟩ : ∃ z, w.heap.size = z := ⟨_, rfl⟩
  obtain ⟨⟨c0, _⟩, ⟨c1, _⟩, ⟨c2, _⟩, ⟨c3, f3⟩, _, hx⟩ := five_boxes w (.pointer (some ⟨b, 0, none⟩)) (.int .i64 t) (.int .i64 a) (.int .u64 x) (.int .i64 0) 32 3 3 26 45 hz rfl
  have l := h.lt
  obtain ⟨l0, l1, l2⟩ := l
  have L1 := Lib.hid (mem_on' (z := z + 1 + 1 + 1 + 1) (P := isB gw) (S := fun w' => MemAt w' b gw gb c ws') k enters_store1 (by simp [hz]) (by unfold isB; omega)
    (mem_Store1 (h.ext hx) ha hr (z + 1 + 1 + 1) z (z + 1) (z + 1 + 1) c0 c1 c2 c3 (by omega) (by omega) (by omega) (by omega)) (fun w' q => q.far (by omega) (by omega) (by omega) _))
  have HZ := Lib.hid hz
  clear c0 c1 c2 c3 f3 hx h ha hr
  go_enter Tryd.func40, Tryd.ntmps40
  go_wp2_with fail
  refine L1.out.mono ?_
  rintro e w1 ⟨rfl, hc, hm⟩
  go_wp2_with fail
  go_ret
  exact ⟨rfl, (((((Chg.refl (isB gw) w).alloc _).alloc _).alloc _).alloc _).trans hc, hm⟩

/-! ### Zero -/
def zeroR (c : Conf) (ws : List Int) (t a n : Int) : List Int × Int := if partErr c t a n = 0 then (zeroL ws (baseN c t.toNat + a.toNat) n.toNat, 0) else (ws, partErr c t a n)
theorem zeroL_none (ws : List Int) (a : Nat) : zeroL ws a 0 = ws := by unfold zeroL; simp
theorem MemAt.zero {w : World} {b gw gb i n : Nat} {c : Conf} {ws : List Int} (h : MemAt w b gw gb c ws) (hi : i + n ≤ ws.length) : MemAt (w.setCells gw i (List.replicate n (.int .u64 0))) b gw gb c (zeroL ws i n) := by
  obtain ⟨cap, h0, h1⟩ := h.words
  obtain ⟨cap', g0, g1⟩ := h.bases
  have n1 := h.ne; have n2 := h.nb
  have hl := zeroL_len hi
  have far : ∀ b' o u, b' ≠ gw → w.cell? ⟨b', o, none⟩ = some u → (w.setCells gw i (List.replicate n (.int .u64 0))).cell? ⟨b', o, none⟩ = some u := fun b' o u hb hc => by
    rw [World.cell?_setCells_out gw _ i w ⟨b', o, none⟩ (fun e => absurd e.symm (Ne.symm hb))]; exact hc
  refine ⟨h.ok, by rw [hl]; exact h.len, ⟨cap, by rw [hl]; exact far _ _ _ n1 h0, by rw [hl]; exact h1⟩, ⟨cap', far _ _ _ n1 g0, g1⟩, At.mk fun k hk => ?_, fun t ht => far _ _ _ n2 (h.base t ht), fun o => by rw [World.frozen?_setCells]; exact h.fz o, n1, n2⟩
  rw [hl] at hk
  rw [Nat.zero_add, nth_zeroL hi]
  by_cases hin : i ≤ k ∧ k < i + n
  · rw [if_pos hin]
    have := World.cell?_setCells_in gw (List.replicate n (.int .u64 0)) i w (fun j hj => by rw [List.length_replicate] at hj; rw [h.word (by omega)]; rfl) (k - i) (by simp; omega)
    rw [show i + (k - i) = k by omega] at this
    rw [this]; simp [show k - i < n by omega]
  · rw [if_neg hin, World.cell?_setCells_out gw _ i w ⟨gw, k, none⟩ (fun _ => by simp; omega)]
    exact h.word hk
theorem enters_zero1 : Enters Tryd.prog 68 := Enters.mk Tryd.func68 (by kernel_rfl) rfl

set_option maxHeartbeats 4000000 in
theorem mem_Zero1 {b gw gb : Nat} {t a n k : Int} {c : Conf} {ws ws' : List Int} {w : World} (h : MemAt w b gw gb c ws) (ha : is64 a) (hn : is64 n) (hr : zeroR c ws t a n = (ws', k)) (pm pt pa pn : Nat)
    (c0 : w.cell? ⟨pm, 0, none⟩ = some (.pointer (some ⟨b, 0, none⟩))) (c1 : w.cell? ⟨pt, 0, none⟩ = some (.int .i64 t)) (c2 : w.cell? ⟨pa, 0, none⟩ = some (.int .i64 a)) (c3 : w.cell? ⟨pn, 0, none⟩ = some (.int .i64 n)) :
    Calls Tryd.prog 68 #[.pointer (some ⟨pm, 0, none⟩), .pointer (some ⟨pt, 0, none⟩), .pointer (some ⟨pa, 0, none⟩), .pointer (some ⟨pn, 0, none⟩)] w
      fun e w' => within k e ∧ Chg (isB gw) w w' ∧ MemAt w' b gw gb c ws' := by
  have H := Lib.hid h
  unfold zeroR at hr
  by_cases hp : partErr c t a n = 0
  · rw [if_pos hp] at hr
    cases hr
    obtain ⟨i, j, m, rfl, rfl, rfl, hi, hj⟩ := partErr_ok hp
    simp only [Int.toNat_natCast]
    rcases Nat.eq_zero_or_pos m with hm | hm
    · subst hm
      have PP := Lib.hid (mem_part0 h hi (show j ≤ wordsN c i by omega))
      have hcl : ∀ ty p cap (w : World), (Builtin.clear_ #[56] ty #[.slice p 0 cap]).run Tryd.prog w = .ok (.tuple #[]) w := fun ty p cap w => by
        cases p <;> simp [Builtin.clear_, run_underlying Tryd.underlying56]
      rw [zeroL_none]
      clear h hp hi hj ha hn
      go_enter Tryd.func68, Tryd.ntmps68
      go_wp2_with fail
      refine PP.out.mono ?_
      rintro e w1 ⟨⟨p, cap, rfl⟩, x⟩
      go_wp2_with fail
      go_end0
      exact ⟨.inl ⟨rfl, rfl⟩, Chg.of_ext x, H.out.ext x⟩
    · have hin := h.ok.region_in hi
      have hl := h.len
      have PP := Lib.hid (mem_part h hi hj hm)
      have HB := Lib.hid (show baseN c i + j + m ≤ ws.length by omega)
      clear h hp hin hl hi hj ha hn
      go_enter Tryd.func68, Tryd.ntmps68
      go_wp2_with fail
      refine PP.out.mono ?_
      rintro e w1 ⟨⟨cap, rfl, hc1, hc2⟩, x⟩
      have H1 := Lib.hid (H.out.ext x)
      have hv : ∀ w, (zeroValue 26).run Tryd.prog w = .ok (.int .u64 0) w := fun w => by kernel_rfl
      have hcl : ∀ ty, (Builtin.clear_ #[56] ty #[.slice (some ⟨gw, baseN c i + j, none⟩) m cap]).run Tryd.prog w1 = .ok (.tuple #[]) (w1.setCells gw (baseN c i + j) (List.replicate m (.int .u64 0))) := fun ty =>
        Lib.run_clear_slice w1 _ 26 ty (.int .u64 0) Tryd.underlying56 hv rfl rfl gw (baseN c i + j) m cap hm (fun y hy => by rw [H1.out.word (by have := HB.out; omega)]; rfl) (fun y _ => H1.out.fz _)
      clear hv
      go_wp2_with fail
      go_end0
      exact ⟨.inl ⟨rfl, rfl⟩, Chg.setCells (P := isB gw) _ _ (Chg.of_ext x) rfl, H1.out.zero HB.out⟩
  · rw [if_neg hp] at hr
    cases hr
    have PP := Lib.hid (mem_part_no _ h rfl hp ha hn)
    have HP := Lib.hid hp
    clear h hp ha hn
    go_enter Tryd.func68, Tryd.ntmps68
    go_wp2_with fail
    refine PP.out.mono ?_
    rintro e w1 ⟨rfl, x⟩
    exact ⟨rfl, .inr ⟨HP.out, rfl⟩, Chg.of_ext x, H.out.ext x⟩

set_option maxHeartbeats 4000000 in
theorem mem_Zero {b gw gb : Nat} {t a n k : Int} {c : Conf} {ws ws' : List Int} {w : World} (h : MemAt w b gw gb c ws) (ha : is64 a) (hn : is64 n) (hr : zeroR c ws t a n = (ws', k)) :
    Calls Tryd.prog 39 #[.pointer (some ⟨b, 0, none⟩), .int .i64 t, .int .i64 a, .int .i64 n] w fun e w' => e = .returned (.int .i64 k) ∧ Chg (isB gw) w w' ∧ MemAt w' b gw gb c ws' := by
  have hmf : ∀ (fn : Fn) (first cap : Array Value) (w : World), (Instr.makeFunc fn first cap).run Tryd.prog w = .ok (.func fn first cap) w := fun _ _ _ _ => rfl
  obtain ⟨z, hz⟩ : ∃ z, w.heap.size = z := ⟨_, rfl⟩
  obtain ⟨⟨c0, _⟩, ⟨c1, _⟩, ⟨c2, _⟩, ⟨c3, f3⟩, _, hx⟩ := five_boxes w (.pointer (some ⟨b, 0, none⟩)) (.int .i64 t) (.int .i64 a) (.int .i64 n) (.int .i64 0) 32 3 3 3 45 hz rfl
  have l := h.lt
  obtain ⟨l0, l1, l2⟩ := l
  have L1 := Lib.hid (mem_on' (z := z + 1 + 1 + 1 + 1) (P := isB gw) (S := fun w' => MemAt w' b gw gb c ws') k enters_zero1 (by simp [hz]) (by unfold isB; omega)
    (mem_Zero1 (h.ext hx) ha hn hr z (z + 1) (z + 1 + 1) (z + 1 + 1 + 1) c0 c1 c2 c3) (fun w' q => q.far (by omega) (by omega) (by omega) _))
  have HZ := Lib.hid hz
  clear c0 c1 c2 c3 f3 hx h ha hn hr
  go_enter Tryd.func39, Tryd.ntmps39
  go_wp2_with fail
  refine L1.out.mono ?_
  rintro e w1 ⟨rfl, hc, hm⟩
  go_wp2_with fail
  go_ret
  exact ⟨rfl, (((((Chg.refl (isB gw) w).alloc _).alloc _).alloc _).alloc _).trans hc, hm⟩

/-! ### Words, All, Copy -/
theorem enters_mwords1 : Enters Tryd.prog 52 := Enters.mk Tryd.func52 (by kernel_rfl) rfl
/-- What Words tells: words of its own, or none. -/
def WordsAt (c : Conf) (ws : List Int) (t k : Int) (w w' : World) (sv : Value) : Prop :=
  (k = 0 ∧ ∃ a cap, sv = .slice a (regionL c ws t.toNat).length cap ∧ NewInts .u64 w w' a cap (regionL c ws t.toNat)) ∨ (k ≠ 0 ∧ sv = .slice none 0 0)
theorem WordsAt.mk {c : Conf} {ws : List Int} {i : Nat} {w w' : World} {a : Option Addr} {cap : Nat} (h : NewInts .u64 w w' a cap (regionL c ws i)) : WordsAt c ws i 0 w w' (.slice a (regionL c ws i).length cap) :=
  .inl ⟨rfl, a, cap, rfl, h⟩
theorem WordsAt.form {c : Conf} {ws : List Int} {t k : Int} {w w' : World} {sv : Value} (h : WordsAt c ws t k w w' sv) : ∃ a n cap, sv = .slice a n cap := by
  rcases h with ⟨_, a, cap, rfl, _⟩ | ⟨_, rfl⟩
  · exact ⟨_, _, _, rfl⟩
  · exact ⟨_, _, _, rfl⟩
theorem WordsAt.setCell {c : Conf} {ws : List Int} {t k : Int} {w w' : World} {sv : Value} (h : WordsAt c ws t k w w' sv) {p : Addr} (hp : p.block < w.heap.size) (u : Value) : WordsAt c ws t k w (w'.setCell p u) sv := by
  rcases h with ⟨h0, a, cap, rfl, hn⟩ | h
  · exact .inl ⟨h0, a, cap, rfl, hn.setCell hp u⟩
  · exact .inr h
theorem WordsAt.lower {c : Conf} {ws : List Int} {t k : Int} {w w0 w' : World} {sv : Value} (h : WordsAt c ws t k w0 w' sv) (hl : w.heap.size ≤ w0.heap.size) : WordsAt c ws t k w w' sv := by
  rcases h with ⟨h0, a, cap, rfl, hn⟩ | h
  · exact .inl ⟨h0, a, cap, rfl, hn.lower hl⟩
  · exact .inr h
theorem MemAt.regionAt {w : World} {b gw gb t : Nat} {c : Conf} {ws : List Int} (h : MemAt w b gw gb c ws) (ht : t < c.ts.length) : At .u64 w (some ⟨gw, baseN c t, none⟩) (regionL c ws t) := by
  refine At.mk fun i hi => ?_
  rw [regionL_len h.ok ht h.len] at hi
  have := h.ok.region_in ht
  rw [nth_regionL hi]
  exact h.word (by rw [h.len]; omega)

set_option maxHeartbeats 4000000 in
theorem mem_Words1 {b gw gb : Nat} {t k : Int} {c : Conf} {ws : List Int} {w : World} (h : MemAt w b gw gb c ws) (hr : regErr c t = k) (pm pt pl : Nat)
    (c0 : w.cell? ⟨pm, 0, none⟩ = some (.pointer (some ⟨b, 0, none⟩))) (c1 : w.cell? ⟨pt, 0, none⟩ = some (.int .i64 t)) (c2 : w.cell? ⟨pl, 0, none⟩ = some (.slice none 0 0)) (f2 : w.frozen? ⟨pl, 0, none⟩ = false) :
    Calls Tryd.prog 52 #[.pointer (some ⟨pm, 0, none⟩), .pointer (some ⟨pt, 0, none⟩), .pointer (some ⟨pl, 0, none⟩)] w
      fun e w' => within k e ∧ Chg (isB pl) w w' ∧ ∃ sv, w'.cell? ⟨pl, 0, none⟩ = some sv ∧ w'.frozen? ⟨pl, 0, none⟩ = false ∧ WordsAt c ws t k w w' sv := by
  have H := Lib.hid h
  have C2 := Lib.hid c2; have F2 := Lib.hid f2
  unfold regErr at hr
  by_cases hp : t < 0 ∨ (c.ts.length : Int) ≤ t
  · rw [if_pos hp] at hr
    subst hr
    have PP := Lib.hid (mem_region_no h hp)
    clear h hp c2 f2
    go_enter Tryd.func52, Tryd.ntmps52
    go_wp2_with fail
    refine PP.out.mono ?_
    rintro e w1 ⟨rfl, rfl⟩
    exact ⟨rfl, .inr ⟨by decide, rfl⟩, Chg.refl _ _, _, C2.out, F2.out, .inr ⟨by decide, rfl⟩⟩
  · rw [if_neg hp] at hr
    subst hr
    obtain ⟨i, rfl⟩ : ∃ i : Nat, t = i := ⟨t.toNat, by omega⟩
    have hi : i < c.ts.length := by omega
    have PP := Lib.hid (mem_region h hi)
    have hl := regionL_len h.ok hi h.len
    have hr := h.regionAt hi
    have hb : (regionL c ws i).length * 8 ≤ 140737488355328 := by
      have := h.ok.region_in hi; have := h.ok.total_le; omega
    have HL := Lib.hid hl; have HR := Lib.hid hr; have HB := Lib.hid hb
    clear h hp hl hr hb hi c2 f2
    go_enter Tryd.func52, Tryd.ntmps52
    go_wp2_with fail
    refine PP.out.mono ?_
    rintro e w1 ⟨⟨cap, rfl, hc1, hc2⟩, x⟩
    rw [← HL.out]
    go_wp2_with fail
    refine (clone_words (regionL c ws i) (HR.out.ext x) HB.out).mono ?_
    rintro e w2 ⟨a', c', rfl, hn, x2⟩
    have hE := x.trans x2
    have d2 := hE.cell C2.out
    have g2 := hE.frozenAt C2.out F2.out
    have lt2 : pl < w1.heap.size := cell_lt (x.cell C2.out)
    have HN := Lib.hid hn
    clear hn
    go_wp2_with fail
    go_end0
    exact ⟨.inl ⟨rfl, rfl⟩, Chg.setCell (P := isB pl) (p := ⟨pl, 0, none⟩) (Chg.of_ext hE) (.inl rfl) _, _, World.cell?_setCell_same _ _ _ d2, by simpa using g2, WordsAt.mk ((HN.out.setCell (p := ⟨pl, 0, none⟩) lt2 _).lower x.size)⟩

theorem three_boxes (w : World) (v0 v1 v2 v3 : Value) (t0 t1 t2 t3 : TypeId) {z : Nat} (hz : w.heap.size = z) {W : World} (hW : (((w.alloc (.cells #[v0] t0)).alloc (.cells #[v1] t1)).alloc (.cells #[v2] t2)).alloc (.cells #[v3] t3) = W) :
    (W.cell? ⟨z, 0, none⟩ = some v0 ∧ W.frozen? ⟨z, 0, none⟩ = false) ∧ (W.cell? ⟨z + 1, 0, none⟩ = some v1 ∧ W.frozen? ⟨z + 1, 0, none⟩ = false) ∧ (W.cell? ⟨z + 1 + 1, 0, none⟩ = some v2 ∧ W.frozen? ⟨z + 1 + 1, 0, none⟩ = false) ∧ Ext w W := by
  subst hz hW
  have x : ∀ (W : World) o, Ext W (W.alloc o) := fun W o => (Ext.refl W).alloc o
  refine ⟨?_, ?_, ?_, (((x _ _).trans (x _ _)).trans (x _ _)).trans (x _ _)⟩
  · exact box_up (box_new w v0 t0 rfl) (((x _ _).trans (x _ _)).trans (x _ _))
  · exact box_up (box_new _ v1 t1 (by simp)) ((x _ _).trans (x _ _))
  · exact box_up (box_new _ v2 t2 (by simp)) (x _ _)

set_option maxHeartbeats 4000000 in
theorem mem_Words {b gw gb : Nat} {t k : Int} {c : Conf} {ws : List Int} {w : World} (h : MemAt w b gw gb c ws) (hr : regErr c t = k) :
    Calls Tryd.prog 28 #[.pointer (some ⟨b, 0, none⟩), .int .i64 t] w fun e w' => ∃ sv, e = .returned (.tuple #[sv, .int .i64 k]) ∧ WordsAt c ws t k w w' sv ∧ Ext w w' := by
  have hmf : ∀ (fn : Fn) (first cap : Array Value) (w : World), (Instr.makeFunc fn first cap).run Tryd.prog w = .ok (.func fn first cap) w := fun _ _ _ _ => rfl
  obtain ⟨z, hz⟩ : ∃ z, w.heap.size = z := ⟨_, rfl⟩
  obtain ⟨⟨c0, _⟩, ⟨c1, _⟩, ⟨c2, f2⟩, hx⟩ := three_boxes w (.pointer (some ⟨b, 0, none⟩)) (.int .i64 t) (.slice none 0 0) (.int .i64 0) 32 3 56 45 hz rfl
  have L1 := Lib.hid (mem_on' (z := z + 1 + 1 + 1) (P := isB (z + 1 + 1)) (S := fun w' => ∃ sv, w'.cell? ⟨z + 1 + 1, 0, none⟩ = some sv ∧ w'.frozen? ⟨z + 1 + 1, 0, none⟩ = false ∧ WordsAt c ws t k ((((w.alloc (.cells #[.pointer (some ⟨b, 0, none⟩)] 32)).alloc (.cells #[.int .i64 t] 3)).alloc (.cells #[.slice none 0 0] 56)).alloc (.cells #[.int .i64 0] 45)) w' sv) k enters_mwords1 (by simp [hz]) (by unfold isB; omega)
    (mem_Words1 (h.ext hx) hr z (z + 1) (z + 1 + 1) c0 c1 c2 f2) (fun w' ⟨sv, q1, q2, q3⟩ => ⟨sv, by rw [cell_far _ _ _ _ (by simp)]; exact q1, by simpa using q2, q3.setCell (by simp [hz]) _⟩))
  have HZ := Lib.hid hz
  clear c0 c1 c2 f2 hx h hr
  go_enter Tryd.func28, Tryd.ntmps28
  go_wp2_with fail
  refine L1.out.mono ?_
  rintro e w1 ⟨rfl, hc, sv, c2, f2, hw⟩
  obtain ⟨a, n, cap, rfl⟩ := hw.form
  have HW := Lib.hid hw
  clear hw
  go_wp2_with fail
  have d2 := World.cell?_setCell_same w1 ⟨z + 1 + 1, 0, none⟩ (.slice a n cap) c2
  refine bodyPost_ret (v := .tuple #[.slice a n cap, .int .i64 k]) (by simp [results, Tryd.results28, go_sem, d2]) rfl ⟨.slice a n cap, rfl, (HW.out.setCell (p := ⟨z + 1 + 1, 0, none⟩) (by simp [HZ.out] <;> omega) _).lower (by simp <;> omega), ?_⟩
  refine (Chg.setCell (P := isB (z + 1 + 1)) (p := ⟨z + 1 + 1, 0, none⟩) hc (.inl rfl) _).over ((((Ext.refl w).alloc _).alloc _).alloc _) (fun j hj => ?_)
  have := HZ.out
  unfold isB at hj
  omega

/-- A memory of its own, of the same words. -/
def MemNew (c : Conf) (ws : List Int) (w : World) (e : Ending) (w' : World) : Prop :=
  ∃ b gw gb, e = .returned (.pointer (some ⟨b, 0, none⟩)) ∧ MemAt w' b gw gb c ws ∧ w.heap.size ≤ b ∧ w.heap.size ≤ gw ∧ w.heap.size ≤ gb ∧ Ext w w'

end Go.Proofs.YtnbngcagnchkdaaDoor

/-! The document's answer for classes (commonageref05): each function hands back what class's own plain function computes, and leaves all that there was as it was. -/
namespace Go.Proofs.YtnbngcagnchkdaaDoor
open Go.RowKit

set_option maxHeartbeats 2000000 in
theorem ref05_Check (a : Option Addr) (cap : Nat) (xs : List Int) (w : World) (h : At .i64 w a xs) (hl : xs.length ≤ maxLen) :
    Calls Tryd.prog 44 #[.slice a xs.length cap] w fun e w' => e = .returned (.int .i64 (ccheck xs)) ∧ Ext w w' := by
  unfold maxLen at hl
  by_cases h1 : xs.length < 1 ∨ 8 < xs.length
  · have E := Lib.hid (ccheck_len h1)
    rcases h1 with h1 | h1
    · go_enter Tryd.func44, Tryd.ntmps44
      go_wp2
      go_ret
      exact ⟨by rw [E.out]; rfl, Ext.refl _⟩
    · go_enter Tryd.func44, Tryd.ntmps44
      go_wp2
      go_ret
      exact ⟨by rw [E.out]; rfl, Ext.refl _⟩
  · obtain ⟨b, o, rfl, hc⟩ := h.pos (by omega)
    clear h
    have HC := Lib.hid hc; clear hc
    have hl1 : 1 ≤ xs.length := by omega
    have hl8 : xs.length ≤ 8 := by omega
    clear h1
    go_enter Tryd.func44, Tryd.ntmps44
    go_wp2
    go_loopw [3] (fun i wr => ∃ (k : Nat), k ≤ xs.length ∧ i = .int .i64 k ∧ Hid (∀ j, j < k → 2 ≤ nth xs j ∧ nth xs j ≤ 64 ∧ (0 < j → nth xs (j - 1) < nth xs j)) ∧ Ext w wr) (fun i _ => xs.length - (intOf i).toNat)
    case atStart => exact ⟨0, Nat.zero_le _, rfl, fun j hj => absurd hj (Nat.not_lt_zero _), Ext.refl _⟩
    case round =>
      obtain ⟨k, hk, rfl, HR, hw⟩ := hrel
      by_cases hlt : k < xs.length
      · have hck := hw.cell (HC.out k hlt)
        by_cases hb1 : nth xs k < 2
        · have E := Lib.hid (ccheck_bad hlt (.inl hb1))
          go_wp2
          go_quiet (fail)
          go_wp2
          go_ret
          exact ⟨by rw [E.out]; rfl, hw.drewN _⟩
        · have hd1 : decide (nth xs k < 2) = false := by simpa using hb1
          by_cases hb2 : 64 < nth xs k
          · have E := Lib.hid (ccheck_bad hlt (.inr (.inl hb2)))
            go_wp2
            go_quiet (fail)
            go_wp2
            go_ret
            exact ⟨by rw [E.out]; rfl, hw.drewN _⟩
          · have hd2 : decide (64 < nth xs k) = false := by simpa using hb2
            by_cases hb3 : 0 < k
            · have hd3 : decide (0 < (k : Int)) = true := by simpa using hb3
              have hcp := hw.cell (HC.out (k - 1) (by omega))
              by_cases hb4 : nth xs k ≤ nth xs (k - 1)
              · have E := Lib.hid (ccheck_bad hlt (.inr (.inr ⟨hb3, hb4⟩)))
                go_wp2
                go_quiet (fail)
                go_wp2
                go_ret
                exact ⟨by rw [E.out]; rfl, hw.drewN _⟩
              · have hd4 : decide (nth xs k ≤ nth xs (k - 1)) = false := by simpa using hb4
                go_wp2
                go_quiet (fail)
                go_wp2
                go_roundw
                case rel => exact ⟨k + 1, by omega, by go_num, fun j hj => (Nat.lt_succ_iff_lt_or_eq.1 hj).elim (HR.out j) (fun e => by subst e; exact ⟨by omega, by omega, fun _ => by omega⟩), hw.drewN _⟩
                case measure => simp [intOf]; omega
            · have hd3 : decide (0 < (k : Int)) = false := by simp; omega
              go_wp2
              go_quiet (fail)
              go_wp2
              go_roundw
              case rel => exact ⟨k + 1, by omega, by go_num, fun j hj => (Nat.lt_succ_iff_lt_or_eq.1 hj).elim (HR.out j) (fun e => by subst e; exact ⟨by omega, by omega, fun _ => by omega⟩), hw.drewN _⟩
              case measure => simp [intOf]; omega
      · have E := Lib.hid (ccheck_good hl1 hl8 (fun j hj => HR.out j (by omega)))
        go_wp2
        go_ret
        exact ⟨by rw [E.out]; rfl, hw⟩

end Go.Proofs.YtnbngcagnchkdaaDoor

/-! The document's answer for configurations (commonageref06): each function hands back what conf's own plain function computes, and leaves all that there was as it was. -/
namespace Go.Proofs.YtnbngcagnchkdaaDoor
open Go.RowKit

theorem ref05_Check' {a : Option Addr} {cap : Nat} (xs : List Int) (n : Nat) (p : Int) {w : World} (hn : xs.length = n) (hp : ccheck xs = p) (h : At .i64 w a xs) (hl : xs.length ≤ maxLen) :
    Calls Tryd.prog 44 #[.slice a n cap] w fun e w' => e = .returned (.int .i64 p) ∧ Ext w w' := by
  have := ref05_Check a cap xs w h hl; rw [hp, hn] at this; exact this

theorem ref06_from (n lo hi : Int) (w : World) :
    Calls Tryd.prog 45 #[.int .i64 n, .int .i64 lo, .int .i64 hi] w fun e w' => e = .returned (.bool (decide (lo ≤ n ∧ n ≤ hi))) ∧ w = w' := by
  by_cases a : lo ≤ n
  · by_cases b : n ≤ hi
    · go_enter Tryd.func45, Tryd.ntmps45
      go_wp2_with fail
      go_ret
      exact ⟨ret_bool (by simp [a, b]), rfl⟩
    · have hd : decide (n ≤ hi) = false := by simpa using b
      go_enter Tryd.func45, Tryd.ntmps45
      go_wp2_with fail
      go_ret
      exact ⟨ret_bool (by simp), rfl⟩
  · have hd : decide (lo ≤ n) = false := by simpa using a
    go_enter Tryd.func45, Tryd.ntmps45
    go_wp2_with fail
    go_ret
    exact ⟨ret_bool (by simp), rfl⟩
theorem ref06_fromb {n lo hi : Int} (b : Bool) {w : World} (h : decide (lo ≤ n ∧ n ≤ hi) = b) :
    Calls Tryd.prog 45 #[.int .i64 n, .int .i64 lo, .int .i64 hi] w fun e w' => e = .returned (.bool b) ∧ w = w' := h ▸ ref06_from n lo hi w

set_option maxHeartbeats 2000000 in
theorem ref06_Small {ca ta : Option Addr} {cc tc : Nat} (c : Conf) (b : Bool) {w : World} (hb : decide (c.cl.length ≤ 50 ∧ c.ts.length ≤ 50) = b) (h : CfgAt w ca ta cc tc c) :
    Calls Tryd.prog 17 #[.agg #[.slice ca c.cl.length cc, .int .i64 c.page, .slice ta c.ts.length tc, .int .i64 c.wk, .int .i64 c.gr, .int .i64 c.gens]] w fun e w' => e = .returned (.bool b) ∧ Ext w w' := by
  have hx := (Ext.refl w).alloc (.cells #[.slice ca c.cl.length cc, .int .i64 c.page, .slice ta c.ts.length tc, .int .i64 c.wk, .int .i64 c.gr, .int .i64 c.gens] 25)
  have cm := h.cm
  have tm := h.tm
  unfold maxLen at cm tm
  clear h
  by_cases h1 : c.cl.length ≤ 50
  · by_cases h2 : c.ts.length ≤ 50
    · obtain rfl : true = b := by rw [← hb]; simp [h1, h2]
      have hd2 : decide ((c.ts.length : Int) ≤ 50) = true := by simp; omega
      clear hb
      go_enter Tryd.func17, Tryd.ntmps17
      go_wp2_with fail
      go_ret
      exact ⟨rfl, hx⟩
    · obtain rfl : false = b := by rw [← hb]; simp [h2]
      have hd2 : decide ((c.ts.length : Int) ≤ 50) = false := by simp; omega
      clear hb
      go_enter Tryd.func17, Tryd.ntmps17
      go_wp2_with fail
      go_ret
      exact ⟨rfl, hx⟩
  · obtain rfl : false = b := by rw [← hb]; simp [h1]
    have hd2 : decide ((c.cl.length : Int) ≤ 50) = false := by simp; omega
    clear hb
    go_enter Tryd.func17, Tryd.ntmps17
    go_wp2_with fail
    go_ret
    exact ⟨rfl, hx⟩

/-! ### Check -/
/-- A configuration's head, test by test. -/
theorem head_split (c : Conf) : headOk c ↔ (great c ≤ c.page ∧ c.page ≤ 64) ∧ ((1 : Int) ≤ c.ts.length ∧ (c.ts.length : Int) ≤ 8) ∧ (0 ≤ c.wk ∧ c.wk ≤ 8) ∧ (1 ≤ c.gr ∧ c.gr ≤ 64) ∧ (1 ≤ c.gens ∧ c.gens ≤ 2147483648) := by
  unfold headOk; constructor <;> intro h <;> omega
theorem ten_split (g : Int) (t : Ten) : tenOk g t ↔ (g ≤ t.q ∧ t.q ≤ 4096) ∧ (1 ≤ t.tr ∧ t.tr ≤ 1048576) ∧ (1 ≤ t.cp ∧ t.cp ≤ 1024) ∧ (0 ≤ t.sst ∧ t.sst ≤ 1024) := by
  unfold tenOk; constructor <;> intro h <;> omega

set_option maxHeartbeats 4000000 in
theorem ref06_Check {ca ta : Option Addr} {cc tc : Nat} (c : Conf) (p : Int) {w : World} (hp : kcheck c = p) (h : CfgAt w ca ta cc tc c) :
    Calls Tryd.prog 18 #[.agg #[.slice ca c.cl.length cc, .int .i64 c.page, .slice ta c.ts.length tc, .int .i64 c.wk, .int .i64 c.gr, .int .i64 c.gens]] w fun e w' => e = .returned (.int .i64 p) ∧ Ext w w' := by
  have h1 := Ext.refl (w.alloc (.cells #[.slice ca c.cl.length cc, .int .i64 c.page, .slice ta c.ts.length tc, .int .i64 c.wk, .int .i64 c.gr, .int .i64 c.gens] 25))
  have hx := (Ext.refl w).alloc (.cells #[.slice ca c.cl.length cc, .int .i64 c.page, .slice ta c.ts.length tc, .int .i64 c.wk, .int .i64 c.gr, .int .i64 c.gens] 25)
  have tm := h.tm
  unfold maxLen at tm
  have H := Lib.hid h; clear h
  by_cases h0 : ccheck c.cl = 0
  · have H0 := Lib.hid h0
    have ho := ccheck_ok h0
    have c1 := ho.pos
    have c8 := ho.most
    obtain ⟨cb, co, rfl, hc⟩ := H.out.cl.pos c1
    have hcg := hc (c.cl.length - 1) (by omega)
    rw [show nth c.cl (c.cl.length - 1) = great c from rfl] at hcg
    have HP := Lib.hid hp
    clear h0 ho hc hp
    go_enter Tryd.func18, Tryd.ntmps18
    go_wp2_with fail
    refine (ref05_Check' c.cl _ 0 rfl H0.out (H.out.cl.ext (hx.trans h1)) H.out.cm).mono ?_
    rintro e w1 ⟨rfl, h2⟩
    replace h1 := h1.trans h2
    clear h2
    obtain ⟨b0, b1, b2, b3, b4, b5⟩ := box6 h1
    have hcg1 := (hx.trans h1).cell hcg
    clear hcg
    by_cases g1 : great c ≤ c.page ∧ c.page ≤ 64
    · by_cases g2 : (1 : Int) ≤ c.ts.length ∧ (c.ts.length : Int) ≤ 8
      · by_cases g3 : 0 ≤ c.wk ∧ c.wk ≤ 8
        · by_cases g4 : 1 ≤ c.gr ∧ c.gr ≤ 64
          · by_cases g5 : 1 ≤ c.gens ∧ c.gens ≤ 2147483648
            · have E := Lib.hid (HP.out.symm.trans (kcheck_tens H0.out ((head_split c).2 ⟨g1, g2, g3, g4, g5⟩)))
              have G1 := Lib.hid g1; have G2 := Lib.hid g2; have G3 := Lib.hid g3; have G4 := Lib.hid g4; have G5 := Lib.hid g5
              have t1 : 1 ≤ c.ts.length := by omega
              have t8 : c.ts.length ≤ 8 := by omega
              clear g1 g2 g3 g4 g5
              go_wp2_with fail
              refine (ref06_fromb true (by simpa using G1.out)).mono ?_
              rintro e w1000 ⟨rfl, rfl⟩
              go_wp2_with fail
              refine (ref06_fromb true (by simpa using G2.out)).mono ?_
              rintro e w1000 ⟨rfl, rfl⟩
              go_wp2_with fail
              refine (ref06_fromb true (by simpa using G3.out)).mono ?_
              rintro e w1000 ⟨rfl, rfl⟩
              go_wp2_with fail
              refine (ref06_fromb true (by simpa using G4.out)).mono ?_
              rintro e w1000 ⟨rfl, rfl⟩
              go_wp2_with fail
              refine (ref06_fromb true (by simpa using G5.out)).mono ?_
              rintro e w1000 ⟨rfl, rfl⟩
              go_wp2_with fail
              clear b0 b1 b2 b3 b4 b5 hcg1
              obtain ⟨tb, to_, rfl, ht⟩ := H.out.ts.pos t1
              have HT := Lib.hid ht
              clear ht
              go_loopw [4] (fun i wr => ∃ k : Nat, k ≤ c.ts.length ∧ i = .int .i64 k ∧ Hid (tenCheck (great c) c.ts = tenCheck (great c) (c.ts.drop k)) ∧ Ext (w.alloc (.cells #[.slice (some ⟨cb, co, none⟩) c.cl.length cc, .int .i64 c.page, .slice (some ⟨tb, to_, none⟩) c.ts.length tc, .int .i64 c.wk, .int .i64 c.gr, .int .i64 c.gens] 25)) wr) (fun i _ => c.ts.length - (intOf i).toNat)
              case atStart => exact ⟨0, Nat.zero_le _, rfl, rfl, h1⟩
              case round =>
                clear h1
                obtain ⟨k, hk, rfl, HE, h1⟩ := hrel
                obtain ⟨b0, b1, b2, b3, b4, b5⟩ := box6 h1
                by_cases hlt : k < c.ts.length
                · obtain ⟨q0, q1, q2, q3⟩ := HT.out k hlt
                  have hd : tenCheck (great c) c.ts = if tenOk (great c) (tnth c.ts k) then tenCheck (great c) (c.ts.drop (k + 1)) else 2 := by
                    rw [HE.out, drop_tnth c.ts k hlt]; rfl
                  have HD := Lib.hid hd
                  clear hd
                  have r0 := (hx.trans h1).cell q0
                  have r1 := (hx.trans h1).cell q1
                  have r2 := (hx.trans h1).cell q2
                  have r3 := (hx.trans h1).cell q3
                  clear q0 q1 q2 q3
                  generalize tnth c.ts k = t at *
                  have h1n := h1.alloc (.cells #[.int .i64 t.q, .int .i64 t.tr, .int .i64 t.cp, .int .i64 t.sst] 76)
                  by_cases e1 : great c ≤ t.q ∧ t.q ≤ 4096
                  · by_cases e2 : 1 ≤ t.tr ∧ t.tr ≤ 1048576
                    · by_cases e3 : 1 ≤ t.cp ∧ t.cp ≤ 1024
                      · by_cases e4 : 0 ≤ t.sst ∧ t.sst ≤ 1024
                        · have E2 := Lib.hid (HD.out.trans (if_pos ((ten_split _ t).2 ⟨e1, e2, e3, e4⟩)))
                          have F1 := Lib.hid e1; have F2 := Lib.hid e2; have F3 := Lib.hid e3; have F4 := Lib.hid e4
                          clear e1 e2 e3 e4
                          go_wp2_with fail
                          refine (ref06_fromb true (by simpa using F1.out)).mono ?_
                          rintro e w1000 ⟨rfl, rfl⟩
                          go_wp2_with fail
                          refine (ref06_fromb true (by simpa using F2.out)).mono ?_
                          rintro e w1000 ⟨rfl, rfl⟩
                          go_wp2_with fail
                          refine (ref06_fromb true (by simpa using F3.out)).mono ?_
                          rintro e w1000 ⟨rfl, rfl⟩
                          go_wp2_with fail
                          refine (ref06_fromb true (by simpa using F4.out)).mono ?_
                          rintro e w1000 ⟨rfl, rfl⟩
                          go_wp2_with fail
                          go_roundw
                          case rel => exact ⟨k + 1, by omega, by go_num, E2.out, h1n⟩
                          case measure => simp [intOf]; omega
                        · have E2 := Lib.hid (HD.out.trans (if_neg (fun h => e4 ((ten_split _ t).1 h).2.2.2)))
                          have F1 := Lib.hid e1; have F2 := Lib.hid e2; have F3 := Lib.hid e3; have F4 := Lib.hid e4
                          clear e1 e2 e3 e4
                          go_wp2_with fail
                          refine (ref06_fromb true (by simpa using F1.out)).mono ?_
                          rintro e w1000 ⟨rfl, rfl⟩
                          go_wp2_with fail
                          refine (ref06_fromb true (by simpa using F2.out)).mono ?_
                          rintro e w1000 ⟨rfl, rfl⟩
                          go_wp2_with fail
                          refine (ref06_fromb true (by simpa using F3.out)).mono ?_
                          rintro e w1000 ⟨rfl, rfl⟩
                          go_wp2_with fail
                          refine (ref06_fromb false (decide_eq_false F4.out)).mono ?_
                          rintro e w1000 ⟨rfl, rfl⟩
                          go_wp2_with fail
                          go_ret
                          exact ⟨by rw [E.out, E2.out]; rfl, hx.trans h1n⟩
                      · have E2 := Lib.hid (HD.out.trans (if_neg (fun h => e3 ((ten_split _ t).1 h).2.2.1)))
                        have F1 := Lib.hid e1; have F2 := Lib.hid e2; have F3 := Lib.hid e3
                        clear e1 e2 e3
                        go_wp2_with fail
                        refine (ref06_fromb true (by simpa using F1.out)).mono ?_
                        rintro e w1000 ⟨rfl, rfl⟩
                        go_wp2_with fail
                        refine (ref06_fromb true (by simpa using F2.out)).mono ?_
                        rintro e w1000 ⟨rfl, rfl⟩
                        go_wp2_with fail
                        refine (ref06_fromb false (decide_eq_false F3.out)).mono ?_
                        rintro e w1000 ⟨rfl, rfl⟩
                        go_wp2_with fail
                        go_ret
                        exact ⟨by rw [E.out, E2.out]; rfl, hx.trans h1n⟩
                    · have E2 := Lib.hid (HD.out.trans (if_neg (fun h => e2 ((ten_split _ t).1 h).2.1)))
                      have F1 := Lib.hid e1; have F2 := Lib.hid e2
                      clear e1 e2
                      go_wp2_with fail
                      refine (ref06_fromb true (by simpa using F1.out)).mono ?_
                      rintro e w1000 ⟨rfl, rfl⟩
                      go_wp2_with fail
                      refine (ref06_fromb false (decide_eq_false F2.out)).mono ?_
                      rintro e w1000 ⟨rfl, rfl⟩
                      go_wp2_with fail
                      go_ret
                      exact ⟨by rw [E.out, E2.out]; rfl, hx.trans h1n⟩
                  · have E2 := Lib.hid (HD.out.trans (if_neg (fun h => e1 ((ten_split _ t).1 h).1)))
                    have F1 := Lib.hid e1
                    clear e1
                    go_wp2_with fail
                    refine (ref06_fromb false (decide_eq_false F1.out)).mono ?_
                    rintro e w1000 ⟨rfl, rfl⟩
                    go_wp2_with fail
                    go_ret
                    exact ⟨by rw [E.out, E2.out]; rfl, hx.trans h1n⟩
                · have E2 := Lib.hid (HE.out.trans (by rw [List.drop_of_length_le (by omega)]; rfl : tenCheck (great c) (c.ts.drop k) = 0))
                  go_wp2_with fail
                  go_ret
                  exact ⟨by rw [E.out, E2.out]; rfl, hx.trans h1⟩
            · have E := Lib.hid (HP.out.symm.trans (kcheck_head H0.out (fun h => g5 ((head_split c).1 h).2.2.2.2)))
              have G1 := Lib.hid g1; have G2 := Lib.hid g2; have G3 := Lib.hid g3; have G4 := Lib.hid g4; have G5 := Lib.hid g5
              clear g1 g2 g3 g4 g5
              go_wp2_with fail
              refine (ref06_fromb true (by simpa using G1.out)).mono ?_
              rintro e w1000 ⟨rfl, rfl⟩
              go_wp2_with fail
              refine (ref06_fromb true (by simpa using G2.out)).mono ?_
              rintro e w1000 ⟨rfl, rfl⟩
              go_wp2_with fail
              refine (ref06_fromb true (by simpa using G3.out)).mono ?_
              rintro e w1000 ⟨rfl, rfl⟩
              go_wp2_with fail
              refine (ref06_fromb true (by simpa using G4.out)).mono ?_
              rintro e w1000 ⟨rfl, rfl⟩
              go_wp2_with fail
              refine (ref06_fromb false (decide_eq_false G5.out)).mono ?_
              rintro e w1000 ⟨rfl, rfl⟩
              go_wp2_with fail
              go_ret
              exact ⟨by rw [E.out]; rfl, hx.trans h1⟩
          · have E := Lib.hid (HP.out.symm.trans (kcheck_head H0.out (fun h => g4 ((head_split c).1 h).2.2.2.1)))
            have G1 := Lib.hid g1; have G2 := Lib.hid g2; have G3 := Lib.hid g3; have G4 := Lib.hid g4
            clear g1 g2 g3 g4
            go_wp2_with fail
            refine (ref06_fromb true (by simpa using G1.out)).mono ?_
            rintro e w1000 ⟨rfl, rfl⟩
            go_wp2_with fail
            refine (ref06_fromb true (by simpa using G2.out)).mono ?_
            rintro e w1000 ⟨rfl, rfl⟩
            go_wp2_with fail
            refine (ref06_fromb true (by simpa using G3.out)).mono ?_
            rintro e w1000 ⟨rfl, rfl⟩
            go_wp2_with fail
            refine (ref06_fromb false (decide_eq_false G4.out)).mono ?_
            rintro e w1000 ⟨rfl, rfl⟩
            go_wp2_with fail
            go_ret
            exact ⟨by rw [E.out]; rfl, hx.trans h1⟩
        · have E := Lib.hid (HP.out.symm.trans (kcheck_head H0.out (fun h => g3 ((head_split c).1 h).2.2.1)))
          have G1 := Lib.hid g1; have G2 := Lib.hid g2; have G3 := Lib.hid g3
          clear g1 g2 g3
          go_wp2_with fail
          refine (ref06_fromb true (by simpa using G1.out)).mono ?_
          rintro e w1000 ⟨rfl, rfl⟩
          go_wp2_with fail
          refine (ref06_fromb true (by simpa using G2.out)).mono ?_
          rintro e w1000 ⟨rfl, rfl⟩
          go_wp2_with fail
          refine (ref06_fromb false (decide_eq_false G3.out)).mono ?_
          rintro e w1000 ⟨rfl, rfl⟩
          go_wp2_with fail
          go_ret
          exact ⟨by rw [E.out]; rfl, hx.trans h1⟩
      · have E := Lib.hid (HP.out.symm.trans (kcheck_head H0.out (fun h => g2 ((head_split c).1 h).2.1)))
        have G1 := Lib.hid g1; have G2 := Lib.hid g2
        clear g1 g2
        go_wp2_with fail
        refine (ref06_fromb true (by simpa using G1.out)).mono ?_
        rintro e w1000 ⟨rfl, rfl⟩
        go_wp2_with fail
        refine (ref06_fromb false (decide_eq_false G2.out)).mono ?_
        rintro e w1000 ⟨rfl, rfl⟩
        go_wp2_with fail
        go_ret
        exact ⟨by rw [E.out]; rfl, hx.trans h1⟩
    · have E := Lib.hid (HP.out.symm.trans (kcheck_head H0.out (fun h => g1 ((head_split c).1 h).1)))
      have G1 := Lib.hid g1
      clear g1
      go_wp2_with fail
      refine (ref06_fromb false (decide_eq_false G1.out)).mono ?_
      rintro e w1000 ⟨rfl, rfl⟩
      go_wp2_with fail
      go_ret
      exact ⟨by rw [E.out]; rfl, hx.trans h1⟩
  · have h2 : ccheck c.cl = 2 := (ccheck_01 _).resolve_left h0
    have E := Lib.hid (hp.symm.trans (kcheck_no h0))
    have H2 := Lib.hid h2
    clear h0 h2 hp
    go_enter Tryd.func18, Tryd.ntmps18
    go_wp2_with fail
    refine (ref05_Check' c.cl _ 2 rfl H2.out (H.out.cl.ext (hx.trans h1)) H.out.cm).mono ?_
    rintro e w1 ⟨rfl, h2⟩
    replace h1 := h1.trans h2
    clear h2
    obtain ⟨b0, b1, b2, b3, b4, b5⟩ := box6 h1
    go_wp2_with fail
    all_goals (try clear b0 b1 b2 b3 b4 b5)
    go_ret
    exact ⟨by rw [E.out]; rfl, hx.trans h1⟩

/-! ### there, Slots, Pages, Region, Base, Total -/
set_option maxHeartbeats 2000000 in
theorem ref06_there {ca ta : Option Addr} {cc tc : Nat} (c : Conf) (t k : Int) (b : Bool) {w : World} (hb : decide (there c t k) = b) (h : CfgAt w ca ta cc tc c) :
    Calls Tryd.prog 71 #[.agg #[.slice ca c.cl.length cc, .int .i64 c.page, .slice ta c.ts.length tc, .int .i64 c.wk, .int .i64 c.gr, .int .i64 c.gens], .int .i64 t, .int .i64 k] w fun e w' => e = .returned (.bool b) ∧ Ext w w' := by
  have h1 := Ext.refl (w.alloc (.cells #[.slice ca c.cl.length cc, .int .i64 c.page, .slice ta c.ts.length tc, .int .i64 c.wk, .int .i64 c.gr, .int .i64 c.gens] 25))
  have hx := (Ext.refl w).alloc (.cells #[.slice ca c.cl.length cc, .int .i64 c.page, .slice ta c.ts.length tc, .int .i64 c.wk, .int .i64 c.gr, .int .i64 c.gens] 25)
  have H := Lib.hid h; clear h
  by_cases h0 : kcheck c = 0
  · have ho := kcheck_ok h0
    have c1 := ho.cl.pos
    have c8 := ho.cl.most
    have t1 := ho.head.2.2.1
    have t8 := ho.head.2.2.2.1
    have H0 := Lib.hid h0
    by_cases e1 : 0 ≤ t ∧ t ≤ (c.ts.length : Int) - 1
    · have hw : decide (0 ≤ k ∧ k ≤ (c.cl.length : Int) - 1) = b := by rw [← hb]; unfold there; simp only [h0, true_and, e1.1, e1.2]
      have HW := Lib.hid hw
      have F1 := Lib.hid e1
      clear h0 ho hw hb e1
      go_enter Tryd.func71, Tryd.ntmps71
      go_wp2_with fail
      try clear b0 b1 b2 b3 b4 b5
      refine (ref06_Check c 0 H0.out (H.out.ext (hx.trans h1))).mono ?_
      rintro e w1 ⟨rfl, h2⟩
      replace h1 := h1.trans h2
      clear h2
      obtain ⟨b0, b1, b2, b3, b4, b5⟩ := box6 h1
      go_wp2_with fail
      refine (ref06_fromb true (by simpa using F1.out)).mono ?_
      rintro e w1001 ⟨rfl, rfl⟩
      go_wp2_with fail
      refine (ref06_fromb b HW.out).mono ?_
      rintro e w1001 ⟨rfl, rfl⟩
      go_wp2_with fail
      go_ret
      exact ⟨rfl, hx.trans h1⟩
    · obtain rfl : false = b := by rw [← hb]; symm; rw [decide_eq_false_iff_not]; exact fun h => e1 ⟨h.2.1, h.2.2.1⟩
      have F1 := Lib.hid e1
      clear h0 ho hb e1
      go_enter Tryd.func71, Tryd.ntmps71
      go_wp2_with fail
      refine (ref06_Check c 0 H0.out (H.out.ext (hx.trans h1))).mono ?_
      rintro e w2 ⟨rfl, h2⟩
      replace h1 := h1.trans h2
      clear h2
      obtain ⟨b0, b1, b2, b3, b4, b5⟩ := box6 h1
      go_wp2_with fail
      all_goals (try clear b0 b1 b2 b3 b4 b5)
      refine (ref06_fromb false (decide_eq_false F1.out)).mono ?_
      rintro e w1002 ⟨rfl, rfl⟩
      go_wp2_with fail
      go_ret
      exact ⟨rfl, hx.trans h1⟩
  · have h2 : kcheck c = 2 := (kcheck_01 _).resolve_left h0
    obtain rfl : b = false := by rw [← hb]; simp [there, h0]
    have H2 := Lib.hid h2
    clear h0 h2 hb
    go_enter Tryd.func71, Tryd.ntmps71
    go_wp2_with fail
    refine (ref06_Check c 2 H2.out (H.out.ext (hx.trans h1))).mono ?_
    rintro e w3 ⟨rfl, h2⟩
    replace h1 := h1.trans h2
    clear h2
    obtain ⟨b0, b1, b2, b3, b4, b5⟩ := box6 h1
    go_wp2_with fail
    all_goals (try clear b0 b1 b2 b3 b4 b5)
    go_ret
    exact ⟨rfl, hx.trans h1⟩

set_option maxHeartbeats 2000000 in
theorem ref06_Slots {ca ta : Option Addr} {cc tc : Nat} (c : Conf) (t k p q : Int) {w : World} (hpq : kslots c t k = (p, q)) (h : CfgAt w ca ta cc tc c) :
    Calls Tryd.prog 48 #[.agg #[.slice ca c.cl.length cc, .int .i64 c.page, .slice ta c.ts.length tc, .int .i64 c.wk, .int .i64 c.gr, .int .i64 c.gens], .int .i64 t, .int .i64 k] w fun e w' => e = .returned (.tuple #[.int .i64 p, .int .i64 q]) ∧ Ext w w' := by
  have h1 := Ext.refl (w.alloc (.cells #[.slice ca c.cl.length cc, .int .i64 c.page, .slice ta c.ts.length tc, .int .i64 c.wk, .int .i64 c.gr, .int .i64 c.gens] 25))
  have hx := (Ext.refl w).alloc (.cells #[.slice ca c.cl.length cc, .int .i64 c.page, .slice ta c.ts.length tc, .int .i64 c.wk, .int .i64 c.gr, .int .i64 c.gens] 25)
  have H := Lib.hid h; clear h
  by_cases hth : there c t k
  · obtain ⟨i, j, rfl, rfl, hi, hj, ho⟩ := there_nat hth
    rw [kslots_yes hth] at hpq
    obtain ⟨rfl, rfl⟩ : slotsOf c i j = p ∧ 0 = q := by simpa using hpq
    clear hpq
    have c8 := ho.cl.most
    have t8 := ho.head.2.2.2.1
    have bd := ho.bounds hi hj
    have u1 := bd.c2; have u2 := bd.cq; have u3 := bd.q4096; have u4 := bd.c64
    have HS := Lib.hid (show slotsOf c i j = (tnth c.ts i).q / nth c.cl j from rfl)
    have HTH := Lib.hid (show decide (there c i j) = true by simpa using hth)
    obtain ⟨cb, co, rfl, hc⟩ := H.out.cl.pos (by omega)
    obtain ⟨tb, to_, rfl, ht⟩ := H.out.ts.pos (by omega)
    have hcj := hc j hj
    have hti := (ht i hi).1
    clear hc ht bd ho hth
    generalize slotsOf c i j = s at *
    generalize nth c.cl j = x at *
    generalize (tnth c.ts i).q = y at *
    go_enter Tryd.func48, Tryd.ntmps48
    go_wp2_with fail
    refine (ref06_there c _ _ true HTH.out (H.out.ext (hx.trans h1))).mono ?_
    rintro e w1 ⟨rfl, h2⟩
    replace h1 := h1.trans h2
    clear h2
    obtain ⟨b0, b1, b2, b3, b4, b5⟩ := box6 h1
    go_wp2_with fail
    all_goals (try clear b0 b1 b2 b3 b4 b5)
    obtain ⟨b0, b1, b2, b3, b4, b5⟩ := box6 h1
    have z1 := (hx.trans h1).cell hcj
    have z2 := (hx.trans h1).cell hti
    clear hcj hti
    go_quiet (fail)
    go_wp2_with fail
    go_ret2
    exact ⟨by rw [HS.out]; rfl, (hx.trans h1).drewN _⟩
  · rw [kslots_no hth] at hpq
    obtain ⟨rfl, rfl⟩ : 0 = p ∧ 2 = q := by simpa using hpq
    have HTH := Lib.hid (show decide (there c t k) = false by simpa using hth)
    clear hpq hth
    go_enter Tryd.func48, Tryd.ntmps48
    go_wp2_with fail
    refine (ref06_there c _ _ false HTH.out (H.out.ext (hx.trans h1))).mono ?_
    rintro e w2 ⟨rfl, h2⟩
    replace h1 := h1.trans h2
    clear h2
    obtain ⟨b0, b1, b2, b3, b4, b5⟩ := box6 h1
    go_wp2_with fail
    all_goals (try clear b0 b1 b2 b3 b4 b5)
    go_ret2
    exact ⟨rfl, hx.trans h1⟩

theorem pages_up {s pe k : Int} (h1 : 1 ≤ pe) (h : k * pe < s) : k + 1 ≤ (s + pe - 1) / pe := by
  rw [Int.le_ediv_iff_mul_le (by omega), Int.add_mul]; omega
theorem pages_end {s pe k : Int} (h1 : 1 ≤ pe) (hk : k ≤ (s + pe - 1) / pe) (h : s ≤ k * pe) : k = (s + pe - 1) / pe := by
  have : (s + pe - 1) / pe < k + 1 := by rw [Int.ediv_lt_iff_lt_mul (by omega), Int.add_mul]; omega
  omega

set_option maxHeartbeats 2000000 in
theorem ref06_Pages {ca ta : Option Addr} {cc tc : Nat} (c : Conf) (t k p q : Int) {w : World} (hpq : kpages c t k = (p, q)) (h : CfgAt w ca ta cc tc c) :
    Calls Tryd.prog 72 #[.agg #[.slice ca c.cl.length cc, .int .i64 c.page, .slice ta c.ts.length tc, .int .i64 c.wk, .int .i64 c.gr, .int .i64 c.gens], .int .i64 t, .int .i64 k] w fun e w' => e = .returned (.tuple #[.int .i64 p, .int .i64 q]) ∧ Ext w w' := by
  have h1 := Ext.refl (w.alloc (.cells #[.slice ca c.cl.length cc, .int .i64 c.page, .slice ta c.ts.length tc, .int .i64 c.wk, .int .i64 c.gr, .int .i64 c.gens] 25))
  have hx := (Ext.refl w).alloc (.cells #[.slice ca c.cl.length cc, .int .i64 c.page, .slice ta c.ts.length tc, .int .i64 c.wk, .int .i64 c.gr, .int .i64 c.gens] 25)
  have H := Lib.hid h; clear h
  by_cases hth : there c t k
  · obtain ⟨i, j, rfl, rfl, hi, hj, ho⟩ := there_nat hth
    have HSL := Lib.hid (kslots_yes hth)
    rw [kpages_yes hth] at hpq
    obtain ⟨rfl, rfl⟩ : pagesOf c i j = p ∧ 0 = q := by simpa using hpq
    clear hpq
    have c8 := ho.cl.most
    have bd := ho.bounds hi hj
    have u1 := bd.c2; have u2 := bd.cpage; have u3 := bd.p64; have u4 := bd.c64; have u5 := bd.s1; have u6 := bd.s2048; have u7 := bd.per1; have u8 := bd.per32; have u9 := bd.pg2048
    have HS := Lib.hid (show pagesOf c i j = (slotsOf c i j + perOf c j - 1) / perOf c j from rfl)
    have HP := Lib.hid (show c.page / nth c.cl j = perOf c j from rfl)
    obtain ⟨cb, co, rfl, hc⟩ := H.out.cl.pos (by omega)
    have hcj := hc j hj
    clear hc bd ho hth
    generalize pagesOf c i j = pg at *
    generalize slotsOf c i j = s at *
    generalize perOf c j = pe at *
    generalize nth c.cl j = x at *
    go_enter Tryd.func72, Tryd.ntmps72
    go_wp2_with fail
    refine (ref06_Slots c _ _ _ _ HSL.out (H.out.ext (hx.trans h1))).mono ?_
    rintro e w1 ⟨rfl, h2⟩
    replace h1 := h1.trans h2
    clear h2
    obtain ⟨b0, b1, b2, b3, b4, b5⟩ := box6 h1
    go_wp2_with fail
    all_goals (try clear b0 b1 b2 b3 b4 b5)
    go_loopw [10] (fun i wr => ∃ k : Nat, i = .int .i64 k ∧ (k : Int) ≤ pg ∧ Ext (w.alloc (.cells #[.slice (some ⟨cb, co, none⟩) c.cl.length cc, .int .i64 c.page, .slice ta c.ts.length tc, .int .i64 c.wk, .int .i64 c.gr, .int .i64 c.gens] 25)) wr) (fun i _ => 2048 - (intOf i).toNat)
    case atStart => exact ⟨0, rfl, by have := HS.out; rw [this]; exact Int.ediv_nonneg (by omega) (by omega), h1⟩
    case round =>
      clear h1
      obtain ⟨k, rfl, hk, h1⟩ := hrel
      obtain ⟨b0, b1, b2, b3, b4, b5⟩ := box6 h1
      have z1 := (hx.trans h1).cell hcj
      have m1 : (k : Int) * pe ≤ 2048 * 32 := by
        have a1 := Int.mul_le_mul_of_nonneg_left (c := (k : Int)) u8 (by omega)
        omega
      have m0 : 0 ≤ (k : Int) * pe := Int.mul_nonneg (by omega) (by omega)
      have hpe := HP.out
      have hm : IntKind.i64.wrap ((k : Int) * pe) = (k : Int) * pe := IntWalk.i64_in _ (by omega)
      by_cases hlt : (k : Int) * pe < s
      · have hup := pages_up u7 hlt
        rw [← HS.out] at hup
        go_wp2_with fail
        go_quiet (fail)
        go_wp2_with fail
        go_roundw
        case rel => exact ⟨k + 1, by go_num, by omega, h1.drewN _⟩
        case measure => simp [intOf]; omega
      · have hd : decide ((k : Int) * pe < s) = false := by simpa using hlt
        have hend := pages_end u7 (by rw [← HS.out]; exact hk) (by omega)
        have HE := Lib.hid (hend.trans HS.out.symm)
        clear hend
        go_wp2_with fail
        go_quiet (fail)
        go_wp2_with fail
        go_ret2
        exact ⟨by rw [← HE.out]; rfl, (hx.trans h1).drewN _⟩
  · have HSL := Lib.hid (kslots_no hth)
    rw [kpages_no hth] at hpq
    obtain ⟨rfl, rfl⟩ : 0 = p ∧ 2 = q := by simpa using hpq
    clear hpq hth
    go_enter Tryd.func72, Tryd.ntmps72
    go_wp2_with fail
    refine (ref06_Slots c _ _ _ _ HSL.out (H.out.ext (hx.trans h1))).mono ?_
    rintro e w2 ⟨rfl, h2⟩
    replace h1 := h1.trans h2
    clear h2
    obtain ⟨b0, b1, b2, b3, b4, b5⟩ := box6 h1
    go_wp2_with fail
    all_goals (try clear b0 b1 b2 b3 b4 b5)
    go_ret2
    exact ⟨rfl, hx.trans h1⟩

set_option maxHeartbeats 2000000 in
theorem ref06_Region {ca ta : Option Addr} {cc tc : Nat} (c : Conf) (t p q : Int) {w : World} (hpq : kregion c t = (p, q)) (h : CfgAt w ca ta cc tc c) :
    Calls Tryd.prog 43 #[.agg #[.slice ca c.cl.length cc, .int .i64 c.page, .slice ta c.ts.length tc, .int .i64 c.wk, .int .i64 c.gr, .int .i64 c.gens], .int .i64 t] w fun e w' => e = .returned (.tuple #[.int .i64 p, .int .i64 q]) ∧ Ext w w' := by
  have h1 := Ext.refl (w.alloc (.cells #[.slice ca c.cl.length cc, .int .i64 c.page, .slice ta c.ts.length tc, .int .i64 c.wk, .int .i64 c.gr, .int .i64 c.gens] 25))
  have hx := (Ext.refl w).alloc (.cells #[.slice ca c.cl.length cc, .int .i64 c.page, .slice ta c.ts.length tc, .int .i64 c.wk, .int .i64 c.gr, .int .i64 c.gens] 25)
  have H := Lib.hid h; clear h
  by_cases hth : there c t 0
  · obtain ⟨i, j, rfl, hz, hi, hj, ho⟩ := there_nat hth
    rw [kregion_yes hth] at hpq
    obtain ⟨rfl, rfl⟩ : wordsOf c i = p ∧ 0 = q := by simpa using hpq
    have HTH := Lib.hid (show decide (there c i 0) = true by simpa using hth)
    have HO := Lib.hid ho
    have HK := Lib.hid ((kcheck_iff c).2 ho)
    have c8 := ho.cl.most
    have HG := Lib.hid (show wordsOf c i = sumTo (fun j => pagesOf c i j * c.page) c.cl.length from rfl)
    clear hpq hz hth ho hj
    go_enter Tryd.func43, Tryd.ntmps43
    go_wp2_with fail
    refine (ref06_there c _ _ true HTH.out (H.out.ext (hx.trans h1))).mono ?_
    rintro e w1 ⟨rfl, h2⟩
    replace h1 := h1.trans h2
    clear h2
    obtain ⟨b0, b1, b2, b3, b4, b5⟩ := box6 h1
    go_wp2_with fail
    all_goals (try clear b0 b1 b2 b3 b4 b5)
    go_loopw [6, 7] (fun u n wr => ∃ k : Nat, k ≤ c.cl.length ∧ n = .int .i64 k ∧ u = .int .i64 (sumTo (fun j => pagesOf c i j * c.page) k) ∧ Ext (w.alloc (.cells #[.slice ca c.cl.length cc, .int .i64 c.page, .slice ta c.ts.length tc, .int .i64 c.wk, .int .i64 c.gr, .int .i64 c.gens] 25)) wr) (fun _ n _ => c.cl.length - (intOf n).toNat)
    case atStart => exact ⟨0, Nat.zero_le _, rfl, rfl, h1⟩
    case round =>
      clear h1
      obtain ⟨k, hk, rfl, rfl, h1⟩ := hrel
      obtain ⟨b0, b1, b2, b3, b4, b5⟩ := box6 h1
      by_cases hlt : k < c.cl.length
      · have hv := HO.out.page_bound hi hlt
        have hu := sumTo_bound (fun j => pagesOf c i j * c.page) 131072 k (fun j hj => HO.out.page_bound hi (by omega))
        have hu2 : sumTo (fun j => pagesOf c i j * c.page) (k + 1) = sumTo (fun j => pagesOf c i j * c.page) k + pagesOf c i k * c.page := rfl
        have HU := Lib.hid hu2; clear hu2
        have HPG := Lib.hid (kpages_yes (there_mk HK.out hi hlt))
        have hwr : IntKind.i64.wrap (pagesOf c i k * c.page) = pagesOf c i k * c.page := IntWalk.i64_in _ (by omega)
        have HWR := Lib.hid hwr
        clear hwr
        generalize sumTo (fun j => pagesOf c i j * c.page) k = u at *
        generalize pagesOf c i k = pg at *
        go_wp2_with fail
        refine (ref06_Pages c _ _ _ _ HPG.out (H.out.ext (hx.trans h1))).mono ?_
        clear b0 b1 b2 b3 b4 b5
        rintro e w2 ⟨rfl, h2⟩
        replace h1 := h1.trans h2
        clear h2
        obtain ⟨b0, b1, b2, b3, b4, b5⟩ := box6 h1
        have hwr := HWR.out
        go_wp2_with fail
        go_roundw
        case rel => exact ⟨k + 1, by omega, by go_num, by rw [HU.out], h1⟩
        case measure => simp [intOf]; omega
      · obtain rfl : k = c.cl.length := by omega
        go_wp2_with fail
        go_ret2
        exact ⟨by rw [HG.out]; rfl, hx.trans h1⟩
  · rw [kregion_no hth] at hpq
    obtain ⟨rfl, rfl⟩ : 0 = p ∧ 2 = q := by simpa using hpq
    have HTH := Lib.hid (show decide (there c t 0) = false by simpa using hth)
    clear hpq hth
    go_enter Tryd.func43, Tryd.ntmps43
    go_wp2_with fail
    refine (ref06_there c _ _ false HTH.out (H.out.ext (hx.trans h1))).mono ?_
    rintro e w2 ⟨rfl, h2⟩
    replace h1 := h1.trans h2
    clear h2
    obtain ⟨b0, b1, b2, b3, b4, b5⟩ := box6 h1
    go_wp2_with fail
    all_goals (try clear b0 b1 b2 b3 b4 b5)
    go_ret2
    exact ⟨rfl, hx.trans h1⟩

set_option maxHeartbeats 2000000 in
theorem ref06_Base {ca ta : Option Addr} {cc tc : Nat} (c : Conf) (t p q : Int) {w : World} (hpq : kbase c t = (p, q)) (h : CfgAt w ca ta cc tc c) :
    Calls Tryd.prog 42 #[.agg #[.slice ca c.cl.length cc, .int .i64 c.page, .slice ta c.ts.length tc, .int .i64 c.wk, .int .i64 c.gr, .int .i64 c.gens], .int .i64 t] w fun e w' => e = .returned (.tuple #[.int .i64 p, .int .i64 q]) ∧ Ext w w' := by
  have h1 := Ext.refl (w.alloc (.cells #[.slice ca c.cl.length cc, .int .i64 c.page, .slice ta c.ts.length tc, .int .i64 c.wk, .int .i64 c.gr, .int .i64 c.gens] 25))
  have hx := (Ext.refl w).alloc (.cells #[.slice ca c.cl.length cc, .int .i64 c.page, .slice ta c.ts.length tc, .int .i64 c.wk, .int .i64 c.gr, .int .i64 c.gens] 25)
  have H := Lib.hid h; clear h
  by_cases hth : there c t 0
  · obtain ⟨i, j, rfl, hz, hi, hj, ho⟩ := there_nat hth
    rw [kbase_yes hth] at hpq
    obtain ⟨rfl, rfl⟩ : baseOf c i = p ∧ 0 = q := by simpa using hpq
    have HTH := Lib.hid (show decide (there c i 0) = true by simpa using hth)
    have HO := Lib.hid ho
    have HK := Lib.hid ((kcheck_iff c).2 ho)
    have t8 := ho.head.2.2.2.1
    have HC1 := Lib.hid ho.cl.pos
    have HG := Lib.hid (show baseOf c i = sumTo (wordsOf c) i from rfl)
    clear hpq hz hth ho hj
    go_enter Tryd.func42, Tryd.ntmps42
    go_wp2_with fail
    refine (ref06_there c _ _ true HTH.out (H.out.ext (hx.trans h1))).mono ?_
    rintro e w1 ⟨rfl, h2⟩
    replace h1 := h1.trans h2
    clear h2
    obtain ⟨b0, b1, b2, b3, b4, b5⟩ := box6 h1
    go_wp2_with fail
    all_goals (try clear b0 b1 b2 b3 b4 b5)
    go_loopw [6, 7] (fun u n wr => ∃ k : Nat, k ≤ i ∧ n = .int .i64 k ∧ u = .int .i64 (sumTo (wordsOf c) k) ∧ Ext (w.alloc (.cells #[.slice ca c.cl.length cc, .int .i64 c.page, .slice ta c.ts.length tc, .int .i64 c.wk, .int .i64 c.gr, .int .i64 c.gens] 25)) wr) (fun _ n _ => i - (intOf n).toNat)
    case atStart => exact ⟨0, Nat.zero_le _, rfl, rfl, h1⟩
    case round =>
      clear h1
      obtain ⟨k, hk, rfl, rfl, h1⟩ := hrel
      obtain ⟨b0, b1, b2, b3, b4, b5⟩ := box6 h1
      by_cases hlt : k < i
      · have hv := HO.out.words_bound (t := k) (by omega)
        have hu := sumTo_bound (wordsOf c) 1048576 k (fun j hj => HO.out.words_bound (by omega))
        have hu2 : sumTo (wordsOf c) (k + 1) = sumTo (wordsOf c) k + wordsOf c k := rfl
        have HU := Lib.hid hu2; clear hu2
        have HPG := Lib.hid (kregion_yes (there_mk (i := k) HK.out (by omega) HC1.out))
        generalize sumTo (wordsOf c) k = u at *
        generalize wordsOf c k = wd at *
        go_wp2_with fail
        refine (ref06_Region c _ _ _ HPG.out (H.out.ext (hx.trans h1))).mono ?_
        clear b0 b1 b2 b3 b4 b5
        rintro e w2 ⟨rfl, h2⟩
        replace h1 := h1.trans h2
        clear h2
        go_wp2_with fail
        go_roundw
        case rel => exact ⟨k + 1, by omega, by go_num, by rw [HU.out], h1⟩
        case measure => simp [intOf]; omega
      · obtain rfl : k = i := by omega
        go_wp2_with fail
        go_ret2
        exact ⟨by rw [HG.out]; rfl, hx.trans h1⟩
  · rw [kbase_no hth] at hpq
    obtain ⟨rfl, rfl⟩ : 0 = p ∧ 2 = q := by simpa using hpq
    have HTH := Lib.hid (show decide (there c t 0) = false by simpa using hth)
    clear hpq hth
    go_enter Tryd.func42, Tryd.ntmps42
    go_wp2_with fail
    refine (ref06_there c _ _ false HTH.out (H.out.ext (hx.trans h1))).mono ?_
    rintro e w2 ⟨rfl, h2⟩
    replace h1 := h1.trans h2
    clear h2
    obtain ⟨b0, b1, b2, b3, b4, b5⟩ := box6 h1
    go_wp2_with fail
    all_goals (try clear b0 b1 b2 b3 b4 b5)
    go_ret2
    exact ⟨rfl, hx.trans h1⟩

set_option maxHeartbeats 2000000 in
theorem ref06_Total {ca ta : Option Addr} {cc tc : Nat} (c : Conf) (p q : Int) {w : World} (hpq : ktotal c = (p, q)) (h : CfgAt w ca ta cc tc c) :
    Calls Tryd.prog 16 #[.agg #[.slice ca c.cl.length cc, .int .i64 c.page, .slice ta c.ts.length tc, .int .i64 c.wk, .int .i64 c.gr, .int .i64 c.gens]] w fun e w' => e = .returned (.tuple #[.int .i64 p, .int .i64 q]) ∧ Ext w w' := by
  have h1 := Ext.refl (w.alloc (.cells #[.slice ca c.cl.length cc, .int .i64 c.page, .slice ta c.ts.length tc, .int .i64 c.wk, .int .i64 c.gr, .int .i64 c.gens] 25))
  have hx := (Ext.refl w).alloc (.cells #[.slice ca c.cl.length cc, .int .i64 c.page, .slice ta c.ts.length tc, .int .i64 c.wk, .int .i64 c.gr, .int .i64 c.gens] 25)
  have tm := h.tm
  unfold maxLen at tm
  have H := Lib.hid h; clear h
  by_cases h0 : kcheck c = 0
  · have ho := kcheck_ok h0
    obtain ⟨rfl, rfl⟩ : baseOf c c.ts.length = p ∧ 0 = q := by unfold ktotal at hpq; rw [if_pos h0] at hpq; simpa using hpq
    have t1 := ho.head.2.2.1
    have t8 := ho.head.2.2.2.1
    have th := there_mk (i := c.ts.length - 1) h0 (by omega) ho.cl.pos
    have e1 : ((c.ts.length - 1 : Nat) : Int) = (c.ts.length : Int) - 1 := by omega
    have HB := Lib.hid (kbase_yes th)
    have HR := Lib.hid (kregion_yes th)
    rw [e1] at HB HR
    have hb := ho.base_bound (t := c.ts.length - 1) (by omega)
    have hw := ho.words_bound (t := c.ts.length - 1) (by omega)
    have HG := Lib.hid (show baseOf c c.ts.length = baseOf c (c.ts.length - 1) + wordsOf c (c.ts.length - 1) by
      have : c.ts.length = (c.ts.length - 1) + 1 := by omega
      rw [this]; rfl)
    clear hpq h0 ho e1 th
    generalize baseOf c (c.ts.length - 1) = u at *
    generalize wordsOf c (c.ts.length - 1) = v at *
    go_enter Tryd.func16, Tryd.ntmps16
    go_wp2_with fail
    try clear b0 b1 b2 b3 b4 b5
    refine (ref06_Base c _ _ _ HB.out (H.out.ext (hx.trans h1))).mono ?_
    rintro e w1 ⟨rfl, h2⟩
    replace h1 := h1.trans h2
    clear h2
    obtain ⟨b0, b1, b2, b3, b4, b5⟩ := box6 h1
    go_wp2_with fail
    clear b0 b1 b2 b3 b4 b5
    refine (ref06_Region c _ _ _ HR.out (H.out.ext (hx.trans h1))).mono ?_
    rintro e w2 ⟨rfl, h2⟩
    replace h1 := h1.trans h2
    clear h2
    go_wp2_with fail
    go_ret2
    exact ⟨by rw [HG.out]; rfl, hx.trans h1⟩
  · obtain ⟨rfl, rfl⟩ : 0 = p ∧ 2 = q := by unfold ktotal at hpq; rw [if_neg h0] at hpq; simpa using hpq
    have HB := Lib.hid (kbase_no (c := c) (t := (c.ts.length : Int) - 1) (fun h => h0 h.1))
    clear h0 hpq
    go_enter Tryd.func16, Tryd.ntmps16
    go_wp2_with fail
    refine (ref06_Base c _ _ _ HB.out (H.out.ext (hx.trans h1))).mono ?_
    rintro e w3 ⟨rfl, h2⟩
    replace h1 := h1.trans h2
    clear h2
    obtain ⟨b0, b1, b2, b3, b4, b5⟩ := box6 h1
    go_wp2_with fail
    all_goals (try clear b0 b1 b2 b3 b4 b5)
    go_ret2
    exact ⟨rfl, hx.trans h1⟩

end Go.Proofs.YtnbngcagnchkdaaDoor
