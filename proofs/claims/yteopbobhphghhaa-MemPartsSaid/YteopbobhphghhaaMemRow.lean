/-
  Acts (commonagelaw07.Act) among a law's arguments, opened.
-/
import Derived.Test.YteopbobhphghhaaProg
import Derived.Test.YteopbobhphghhaaWf
import Derived.Test.YteopbobhphghhaaLaw07b
import Derived.Deep.Slices
import Derived.Deep.Fields
namespace Go.Proofs.Yteopbobhphghhaa
open Go.ChangeShapes Go.WideShapes Go.ChangeAt Go.RowKit Go.Deep

theorem choose_MAct {n : Nat} {Q : Nat → MAct → Prop} (h : ∀ i, i < n → ∃ t, Q i t) : ∃ ts : List MAct, ts.length = n ∧ ∀ i, i < n → Q i (mActnth ts i) := by
  induction n with
  | zero => exact ⟨[], rfl, fun i hi => absurd hi (Nat.not_lt_zero _)⟩
  | succ n ih =>
    obtain ⟨ts, hl, hq⟩ := ih fun i hi => h i (by omega)
    obtain ⟨t, ht⟩ := h n (by omega)
    refine ⟨ts ++ [t], by simp [hl], fun i hi => ?_⟩
    rcases Nat.lt_or_ge i n with c | c
    · have : mActnth (ts ++ [t]) i = mActnth ts i := by simp [mActnth, List.getD, List.getElem?_append, hl, c]
      rw [this]; exact hq i c
    · obtain rfl : i = n := by omega
      have : mActnth (ts ++ [t]) i = t := by simp [mActnth, List.getD, ← hl]
      rw [this]; exact ht
theorem cells_MAct : Try.prog.cellsOf 36 = 5 := by kernel_rfl
theorem cells_MAct_i64 : Try.prog.cellsOf 3 = 1 := by kernel_rfl
theorem cells_MAct_u64 : Try.prog.cellsOf 34 = 1 := by kernel_rfl
theorem cells_MAct_u8 : Try.prog.cellsOf 5 = 1 := by kernel_rfl
theorem mAct_spot {w : World} {a : Addr} {v : Value} (h : w.cell? a = some v) : a.spot = none := by
  obtain ⟨b, o, s⟩ := a
  cases s with
  | none => rfl
  | some s =>
    simp [World.cell?] at h
    split at h <;> cases h
set_option maxRecDepth 100000 in
theorem open_MAct {H : Type} {enc : TypeId × Value → H} {w : World} {base b0 : Nat} {v : Value} {d : DataW H} {p : List MemPlace}
    (hv : Value.okWide Try.prog w .any b0 26 v) (h : DataW.Trod enc Try.prog w base (fun _ => true) true 26 v d p) :
    ∃ (a : Option Addr) (cap : Nat) (l : List MAct), v = .slice a l.length cap ∧ MActAt w a l ∧ l.length ≤ maxLen ∧ cap ≤ maxLen ∧ (a = none → cap = 0) := by
  obtain ⟨a0, len0, cap0, rfl⟩ := okWide_slice Try.underlying26 hv
  obtain ⟨fuel, hf⟩ := h
  rcases open_slice Try.underlying26 hf with ⟨h0, _⟩ | ⟨a, len, cap, m, n', D, Pl, hcs, _, hl, hm, hmm, _, hi⟩
  · simp [Value.cells] at h0
    obtain ⟨rfl, rfl, rfl⟩ := h0
    exact ⟨none, 0, [], rfl, fun i hi => absurd hi (Nat.not_lt_zero _), by decide, by decide, fun _ => rfl⟩
  · simp [Value.cells] at hcs hmm
    obtain ⟨rfl, rfl, rfl⟩ := hcs
    subst hmm
    have key : ∀ i, i < len0 → ∃ t : MAct, t.Ok ∧ w.cell? (a.add (i * 5)) = some (.int .u8 t.what) ∧ w.cell? ((a.add (i * 5)).add 1) = some (.int .i64 t.tenant) ∧ w.cell? ((a.add (i * 5)).add 2) = some (.int .i64 t.addr) ∧ w.cell? ((a.add (i * 5)).add 3) = some (.int .i64 t.many) ∧ w.cell? ((a.add (i * 5)).add 4) = some (.int .u64 t.w) := by
      intro i hi'
      obtain ⟨cs', hc, ht⟩ := hi i (by omega)
      rw [cells_MAct] at hc
      obtain ⟨_, hcl, hat⟩ := World.cells?_some hc
      obtain ⟨xs, n2, _, _, _, hlen, hg⟩ := DataW.trod_struct Try.underlying36 ht
      match cs', hcl with
      | [e0, e1, e2, e3, e4], _ =>
        match xs, hlen with
        | [y0, y1, y2, y3, y4], _ =>
          have g0 := hg 0 _ rfl
          have g1 := hg 1 _ rfl
          have g2 := hg 2 _ rfl
          have g3 := hg 3 _ rfl
          have g4 := hg 4 _ rfl
          simp [cells_MAct_i64, cells_MAct_u64, cells_MAct_u8] at g0 g1 g2 g3 g4
          obtain ⟨q0, r0, _, wf0⟩ := DataW.trod_int Try.underlying5 g0
          obtain ⟨q1, r1, _, wf1⟩ := DataW.trod_int Try.underlying3 g1
          obtain ⟨q2, r2, _, wf2⟩ := DataW.trod_int Try.underlying3 g2
          obtain ⟨q3, r3, _, wf3⟩ := DataW.trod_int Try.underlying3 g3
          obtain ⟨q4, r4, _, wf4⟩ := DataW.trod_int Try.underlying34 g4
          have k0 := hat 0 (by omega)
          have k1 := hat 1 (by omega)
          have k2 := hat 2 (by omega)
          have k3 := hat 3 (by omega)
          have k4 := hat 4 (by omega)
          simp at r0 r1 r2 r3 r4 k0 k1 k2 k3 k4
          refine ⟨⟨q0, q1, q2, q3, q4⟩, ⟨wf8 wf0, wfi wf1, wfi wf2, wfi wf3, wf64 wf4⟩, ?_, ?_, ?_, ?_, ?_⟩
          · simpa [r0, Addr.add] using k0
          · rw [k1, r1]
          · rw [k2, r2]
          · rw [k3, r3]
          · rw [k4, r4]
    obtain ⟨ts, hts, hq⟩ := choose_MAct key
    refine ⟨some a, _, ts, by rw [hts], fun i hi' => ?_, by omega, by omega, fun e => by cases e⟩
    rw [hts] at hi'
    have hs : a.spot = none := by
      have := (hq 0 (by omega)).2.1
      exact mAct_spot (by simpa [Addr.add] using this)
    obtain ⟨b, o, s⟩ := a
    cases hs
    obtain ⟨ok, u0, u1, u2, u3, u4⟩ := hq i hi'
    rw [Addr.add_lit] at u0 u1 u2 u3 u4
    rw [Addr.add_lit] at u1 u2 u3 u4
    exact ⟨ok, b, o, rfl, u0, u1, u2, u3, u4⟩

end Go.Proofs.Yteopbobhphghhaa
