/-
  Acts (commonagelaw14.Act) among a law's arguments, opened.
-/
import Derived.Test.YtfhnjecnamgpkaaDoorProg
import Derived.Test.YtfhnjecnamgpkaaDoorWf
import Derived.Test.YtfhnjecnamgpkaaDoorLaw14b
import Derived.Deep.Slices
import Derived.Deep.Fields
namespace Go.Proofs.YtfhnjecnamgpkaaDoor
open Go.ChangeShapes Go.WideShapes Go.ChangeAt Go.RowKit Go.Deep

theorem choose_PAct {n : Nat} {Q : Nat → PAct → Prop} (h : ∀ i, i < n → ∃ t, Q i t) : ∃ ts : List PAct, ts.length = n ∧ ∀ i, i < n → Q i (pActnth ts i) := by
  induction n with
  | zero => exact ⟨[], rfl, fun i hi => absurd hi (Nat.not_lt_zero _)⟩
  | succ n ih =>
    obtain ⟨ts, hl, hq⟩ := ih fun i hi => h i (by omega)
    obtain ⟨t, ht⟩ := h n (by omega)
    refine ⟨ts ++ [t], by simp [hl], fun i hi => ?_⟩
    rcases Nat.lt_or_ge i n with c | c
    · have : pActnth (ts ++ [t]) i = pActnth ts i := by simp [pActnth, List.getD, List.getElem?_append, hl, c]
      rw [this]; exact hq i c
    · obtain rfl : i = n := by omega
      have : pActnth (ts ++ [t]) i = t := by simp [pActnth, List.getD, ← hl]
      rw [this]; exact ht
theorem cells_PAct : Tryd.prog.cellsOf 65 = 3 := by kernel_rfl
theorem cells_PAct_bool : Tryd.prog.cellsOf 4 = 1 := by kernel_rfl
theorem cells_PAct_i64 : Tryd.prog.cellsOf 3 = 1 := by kernel_rfl
theorem cells_PAct_u8 : Tryd.prog.cellsOf 5 = 1 := by kernel_rfl
theorem pAct_spot {w : World} {a : Addr} {v : Value} (h : w.cell? a = some v) : a.spot = none := by
  obtain ⟨b, o, s⟩ := a
  cases s with
  | none => rfl
  | some s =>
    simp [World.cell?] at h
    split at h <;> cases h
theorem open_PAct {H : Type} {enc : TypeId × Value → H} {w : World} {base b0 : Nat} {v : Value} {d : DataW H} {p : List MemPlace}
    (hv : Value.okWide Tryd.prog w .any b0 59 v) (h : DataW.Trod enc Tryd.prog w base (fun _ => true) true 59 v d p) :
    ∃ (a : Option Addr) (cap : Nat) (l : List PAct), v = .slice a l.length cap ∧ PActAt w a l ∧ l.length ≤ maxLen ∧ cap ≤ maxLen ∧ (a = none → cap = 0) := by
  obtain ⟨a0, len0, cap0, rfl⟩ := okWide_slice Tryd.underlying59 hv
  obtain ⟨fuel, hf⟩ := h
  rcases open_slice Tryd.underlying59 hf with ⟨h0, _⟩ | ⟨a, len, cap, m, n', D, Pl, hcs, _, hl, hm, hmm, _, hi⟩
  · simp [Value.cells] at h0
    obtain ⟨rfl, rfl, rfl⟩ := h0
    exact ⟨none, 0, [], rfl, fun i hi => absurd hi (Nat.not_lt_zero _), by decide, by decide, fun _ => rfl⟩
  · simp [Value.cells] at hcs hmm
    obtain ⟨rfl, rfl, rfl⟩ := hcs
    subst hmm
    have key : ∀ i, i < len0 → ∃ t : PAct, t.Ok ∧ w.cell? (a.add (i * 3)) = some (.int .i64 t.slot) ∧ w.cell? ((a.add (i * 3)).add 1) = some (.bool t.less) ∧ w.cell? ((a.add (i * 3)).add 2) = some (.int .u8 t.times) := by
      intro i hi'
      obtain ⟨cs', hc, ht⟩ := hi i (by omega)
      rw [cells_PAct] at hc
      obtain ⟨_, hcl, hat⟩ := World.cells?_some hc
      obtain ⟨xs, n2, _, _, _, hlen, hg⟩ := DataW.trod_struct Tryd.underlying65 ht
      match cs', hcl with
      | [e0, e1, e2], _ =>
        match xs, hlen with
        | [y0, y1, y2], _ =>
          have g0 := hg 0 _ rfl
          have g1 := hg 1 _ rfl
          have g2 := hg 2 _ rfl
          simp [cells_PAct_bool, cells_PAct_i64, cells_PAct_u8] at g0 g1 g2
          obtain ⟨q0, r0, _, wf0⟩ := DataW.trod_int Tryd.underlying3 g0
          obtain ⟨q1, r1, _⟩ := DataW.trod_bool Tryd.underlying4 g1
          obtain ⟨q2, r2, _, wf2⟩ := DataW.trod_int Tryd.underlying5 g2
          have k0 := hat 0 (by omega)
          have k1 := hat 1 (by omega)
          have k2 := hat 2 (by omega)
          simp at r0 r1 r2 k0 k1 k2
          refine ⟨⟨q0, q1, q2⟩, ⟨wfi wf0, wf8 wf2⟩, ?_, ?_, ?_⟩
          · simpa [r0, Addr.add] using k0
          · rw [k1, r1]
          · rw [k2, r2]
    obtain ⟨ts, hts, hq⟩ := choose_PAct key
    refine ⟨some a, _, ts, by rw [hts], fun i hi' => ?_, by omega, by omega, fun e => by cases e⟩
    rw [hts] at hi'
    have hs : a.spot = none := by
      have := (hq 0 (by omega)).2.1
      exact pAct_spot (by simpa [Addr.add] using this)
    obtain ⟨b, o, s⟩ := a
    cases hs
    obtain ⟨ok, u0, u1, u2⟩ := hq i hi'
    rw [Addr.add_lit] at u0 u1 u2
    rw [Addr.add_lit] at u1 u2
    exact ⟨ok, b, o, rfl, u0, u1, u2⟩

end Go.Proofs.YtfhnjecnamgpkaaDoor
