/-
  Merged texts: Wf, AreRow, CfgRow, Door, BitsRow.
-/
import Derived.ProofKit
import Derived.OpenShut
import Derived.Test.YtlhajoamebfniaaDoorProg
import Derived.Test.YtlhajoamebfniaaDoorQ12
import Derived.Deep.Slices
import Derived.Deep.Fields
import Derived.Test.YtlhajoamebfniaaDoorQ01
import Derived.Test.YtlhajoamebfniaaDoorRows
import Derived.LaidMore
import Derived.Test.YtlhajoamebfniaaDoorQ07
set_option linter.unusedVariables false
set_option linter.unusedSimpArgs false
/-! What a literal's being well formed says of numbers. -/
namespace Go.Proofs.YtlhajoamebfniaaDoor

theorem wf8 {n : Int} (h : (Lit.int .u8 n).wf = true) : 0 ≤ n ∧ n ≤ 255 := by
  simp [Lit.wf, IntKind.min, IntKind.max, IntKind.signed, IntKind.bits] at h; omega
theorem wf16 {n : Int} (h : (Lit.int .u16 n).wf = true) : 0 ≤ n ∧ n ≤ 65535 := by
  simp [Lit.wf, IntKind.min, IntKind.max, IntKind.signed, IntKind.bits] at h; omega
theorem wf32 {n : Int} (h : (Lit.int .u32 n).wf = true) : 0 ≤ n ∧ n ≤ 4294967295 := by
  simp [Lit.wf, IntKind.min, IntKind.max, IntKind.signed, IntKind.bits] at h; omega
theorem wfi {n : Int} (h : (Lit.int .i64 n).wf = true) : -9223372036854775808 ≤ n ∧ n ≤ 9223372036854775807 := by
  simp [Lit.wf, IntKind.min, IntKind.max, IntKind.signed, IntKind.bits] at h; omega
theorem wf64 {n : Int} (h : (Lit.int .u64 n).wf = true) : 0 ≤ n ∧ n < 18446744073709551616 := by
  simp [Lit.wf, IntKind.min, IntKind.max, IntKind.signed, IntKind.bits] at h; omega

end Go.Proofs.YtlhajoamebfniaaDoor

/-! Acts (commonagelaw10.Act) among a law's arguments, opened. -/
namespace Go.Proofs.YtlhajoamebfniaaDoor
open Go.ChangeShapes Go.WideShapes Go.ChangeAt Go.RowKit Go.Deep

theorem choose_AAct {n : Nat} {Q : Nat → AAct → Prop} (h : ∀ i, i < n → ∃ t, Q i t) : ∃ ts : List AAct, ts.length = n ∧ ∀ i, i < n → Q i (aActnth ts i) := by
  induction n with
  | zero => exact ⟨[], rfl, fun i hi => absurd hi (Nat.not_lt_zero _)⟩
  | succ n ih =>
    obtain ⟨ts, hl, hq⟩ := ih fun i hi => h i (by omega)
    obtain ⟨t, ht⟩ := h n (by omega)
    refine ⟨ts ++ [t], by simp [hl], fun i hi => ?_⟩
    rcases Nat.lt_or_ge i n with c | c
    · have : aActnth (ts ++ [t]) i = aActnth ts i := by simp [aActnth, List.getD, List.getElem?_append, hl, c]
      rw [this]; exact hq i c
    · obtain rfl : i = n := by omega
      have : aActnth (ts ++ [t]) i = t := by simp [aActnth, List.getD, ← hl]
      rw [this]; exact ht
theorem cells_AAct : Tryd.prog.cellsOf 59 = 2 := by kernel_rfl
theorem cells_AAct_i64 : Tryd.prog.cellsOf 3 = 1 := by kernel_rfl
theorem cells_AAct_u8 : Tryd.prog.cellsOf 5 = 1 := by kernel_rfl
theorem aAct_spot {w : World} {a : Addr} {v : Value} (h : w.cell? a = some v) : a.spot = none := by
  obtain ⟨b, o, s⟩ := a
  cases s with
  | none => rfl
  | some s =>
    simp [World.cell?] at h
    split at h <;> cases h
set_option maxRecDepth 100000 in
theorem open_AAct {H : Type} {enc : TypeId × Value → H} {w : World} {base b0 : Nat} {v : Value} {d : DataW H} {p : List MemPlace}
    (hv : Value.okWide Tryd.prog w .any b0 50 v) (h : DataW.Trod enc Tryd.prog w base (fun _ => true) true 50 v d p) :
    ∃ (a : Option Addr) (cap : Nat) (l : List AAct), v = .slice a l.length cap ∧ AActAt w a l ∧ l.length ≤ maxLen ∧ cap ≤ maxLen ∧ (a = none → cap = 0) := by
  obtain ⟨a0, len0, cap0, rfl⟩ := okWide_slice Tryd.underlying50 hv
  obtain ⟨fuel, hf⟩ := h
  rcases open_slice Tryd.underlying50 hf with ⟨h0, _⟩ | ⟨a, len, cap, m, n', D, Pl, hcs, _, hl, hm, hmm, _, hi⟩
  · simp [Value.cells] at h0
    obtain ⟨rfl, rfl, rfl⟩ := h0
    exact ⟨none, 0, [], rfl, fun i hi => absurd hi (Nat.not_lt_zero _), by decide, by decide, fun _ => rfl⟩
  · simp [Value.cells] at hcs hmm
    obtain ⟨rfl, rfl, rfl⟩ := hcs
    subst hmm
    have key : ∀ i, i < len0 → ∃ t : AAct, t.Ok ∧ w.cell? (a.add (i * 2)) = some (.int .u8 t.what) ∧ w.cell? ((a.add (i * 2)).add 1) = some (.int .i64 t.n) := by
      intro i hi'
      obtain ⟨cs', hc, ht⟩ := hi i (by omega)
      rw [cells_AAct] at hc
      obtain ⟨_, hcl, hat⟩ := World.cells?_some hc
      obtain ⟨xs, n2, _, _, _, hlen, hg⟩ := DataW.trod_struct Tryd.underlying59 ht
      match cs', hcl with
      | [e0, e1], _ =>
        match xs, hlen with
        | [y0, y1], _ =>
          have g0 := hg 0 _ rfl
          have g1 := hg 1 _ rfl
          simp [cells_AAct_i64, cells_AAct_u8] at g0 g1
          obtain ⟨q0, r0, _, wf0⟩ := DataW.trod_int Tryd.underlying5 g0
          obtain ⟨q1, r1, _, wf1⟩ := DataW.trod_int Tryd.underlying3 g1
          have k0 := hat 0 (by omega)
          have k1 := hat 1 (by omega)
          simp at r0 r1 k0 k1
          refine ⟨⟨q0, q1⟩, ⟨wf8 wf0, wfi wf1⟩, ?_, ?_⟩
          · simpa [r0, Addr.add] using k0
          · rw [k1, r1]
    obtain ⟨ts, hts, hq⟩ := choose_AAct key
    refine ⟨some a, _, ts, by rw [hts], fun i hi' => ?_, by omega, by omega, fun e => by cases e⟩
    rw [hts] at hi'
    have hs : a.spot = none := by
      have := (hq 0 (by omega)).2.1
      exact aAct_spot (by simpa [Addr.add] using this)
    obtain ⟨b, o, s⟩ := a
    cases hs
    obtain ⟨ok, u0, u1⟩ := hq i hi'
    rw [Addr.add_lit] at u0 u1
    rw [Addr.add_lit] at u1
    exact ⟨ok, b, o, rfl, u0, u1⟩

end Go.Proofs.YtlhajoamebfniaaDoor

/-! A configuration among a law's arguments, opened: the value as it stands in the walks, and where its classes and tenants lie. -/
namespace Go.Proofs.YtlhajoamebfniaaDoor
open Go.ChangeShapes Go.WideShapes Go.ChangeAt Go.RowKit Go.Deep

theorem wf_u8 {n : Int} (h : (Lit.int .u8 n).wf = true) : 0 ≤ n ∧ n ≤ 255 := by
  simp [Lit.wf, IntKind.min, IntKind.max, IntKind.signed, IntKind.bits] at h; omega
theorem wf_i64 {n : Int} (h : (Lit.int .i64 n).wf = true) : -9223372036854775808 ≤ n ∧ n ≤ 9223372036854775807 := by
  simp [Lit.wf, IntKind.min, IntKind.max, IntKind.signed, IntKind.bits] at h; omega
theorem wf_u64 {n : Int} (h : (Lit.int .u64 n).wf = true) : 0 ≤ n ∧ n ≤ 18446744073709551615 := by
  simp [Lit.wf, IntKind.min, IntKind.max, IntKind.signed, IntKind.bits] at h; omega

theorem cells_cfg : Tryd.prog.cellsOf 25 = 6 := by kernel_rfl
theorem cells_ten : Tryd.prog.cellsOf 63 = 4 := by kernel_rfl
theorem cells_ints : Tryd.prog.cellsOf 22 = 1 := by kernel_rfl
theorem cells_tens : Tryd.prog.cellsOf 23 = 1 := by kernel_rfl
theorem cells_int : Tryd.prog.cellsOf 3 = 1 := by kernel_rfl

theorem choose_tens {n : Nat} {Q : Nat → Ten → Prop} (h : ∀ i, i < n → ∃ t, Q i t) : ∃ ts : List Ten, ts.length = n ∧ ∀ i, i < n → Q i (tnth ts i) := by
  induction n with
  | zero => exact ⟨[], rfl, fun i hi => absurd hi (Nat.not_lt_zero _)⟩
  | succ n ih =>
    obtain ⟨ts, hl, hq⟩ := ih fun i hi => h i (by omega)
    obtain ⟨t, ht⟩ := h n (by omega)
    refine ⟨ts ++ [t], by simp [hl], fun i hi => ?_⟩
    rcases Nat.lt_or_ge i n with c | c
    · have : tnth (ts ++ [t]) i = tnth ts i := by simp [tnth, List.getD, List.getElem?_append, hl, c]
      rw [this]; exact hq i c
    · obtain rfl : i = n := by omega
      have : tnth (ts ++ [t]) i = t := by simp [tnth, List.getD, ← hl]
      rw [this]; exact ht

theorem spot_none {w : World} {a : Addr} {v : Value} (h : w.cell? a = some v) : a.spot = none := by
  obtain ⟨b, o, s⟩ := a
  cases s with
  | none => rfl
  | some s =>
    simp [World.cell?] at h
    split at h <;> cases h

set_option maxRecDepth 100000 in
/-- Tenants among what was read. -/
theorem open_tens {H : Type} {enc : TypeId × Value → H} {w : World} {base n : Nat} {c0 : Value} {y : DataW H × List MemPlace} (h : DataW.trod enc Tryd.prog w base (fun _ => true) true n 23 [c0] = some y) :
    ∃ ta len tc ts, c0 = .slice ta len tc ∧ ts.length = len ∧ TenAt w ta ts ∧ len ≤ tc ∧ tc ≤ maxLen := by
  rcases open_slice Tryd.underlying23 h with ⟨h0, _⟩ | ⟨a, len, cap, m, n', D, Pl, hcs, _, hl, hm, hmm, _, hi⟩
  · simp at h0
    exact ⟨none, 0, 0, [], h0, rfl, fun i hi => absurd hi (Nat.not_lt_zero _), Nat.le_refl _, by decide⟩
  · simp at hcs hmm
    subst hmm
    have key : ∀ i, i < len → ∃ t : Ten, w.cell? (a.add (i * 4)) = some (.int .i64 t.q) ∧ w.cell? ((a.add (i * 4)).add 1) = some (.int .i64 t.tr) ∧ w.cell? ((a.add (i * 4)).add 2) = some (.int .i64 t.cp) ∧ w.cell? ((a.add (i * 4)).add 3) = some (.int .i64 t.sst) := by
      intro i hi'
      obtain ⟨cs', hc, ht⟩ := hi i (by omega)
      rw [cells_ten] at hc
      obtain ⟨_, hcl, hat⟩ := World.cells?_some hc
      obtain ⟨xs, n2, _, _, _, hlen, hg⟩ := DataW.trod_struct Tryd.underlying63 ht
      match cs', hcl with
      | [e0, e1, e2, e3], _ =>
        match xs, hlen with
        | [y0, y1, y2, y3], _ =>
          have g0 := hg 0 _ rfl
          have g1 := hg 1 _ rfl
          have g2 := hg 2 _ rfl
          have g3 := hg 3 _ rfl
          simp [cells_int] at g0 g1 g2 g3
          obtain ⟨q0, r0, _, _⟩ := DataW.trod_int Tryd.underlying3 g0
          obtain ⟨q1, r1, _, _⟩ := DataW.trod_int Tryd.underlying3 g1
          obtain ⟨q2, r2, _, _⟩ := DataW.trod_int Tryd.underlying3 g2
          obtain ⟨q3, r3, _, _⟩ := DataW.trod_int Tryd.underlying3 g3
          have k0 := hat 0 (by omega)
          have k1 := hat 1 (by omega)
          have k2 := hat 2 (by omega)
          have k3 := hat 3 (by omega)
          simp at r0 r1 r2 r3 k0 k1 k2 k3
          refine ⟨⟨q0, q1, q2, q3⟩, ?_, ?_, ?_, ?_⟩
          · simpa [r0, Addr.add] using k0
          · rw [k1, r1]
          · rw [k2, r2]
          · rw [k3, r3]
    obtain ⟨ts, hts, hq⟩ := choose_tens key
    refine ⟨some a, len, _, ts, hcs, hts, ?_, hl, hm⟩
    intro i hi'
    have hs : a.spot = none := by
      have := (hq 0 (by omega)).1
      exact spot_none (by simpa [Addr.add] using this)
    obtain ⟨b, o, s⟩ := a
    cases hs
    obtain ⟨u0, u1, u2, u3⟩ := hq i (by omega)
    rw [Addr.add_lit] at u0 u1 u2 u3
    rw [Addr.add_lit] at u1 u2 u3
    exact ⟨b, o, rfl, u0, u1, u2, u3⟩

set_option maxRecDepth 100000 in
theorem open_cfg {H : Type} {enc : TypeId × Value → H} {w : World} {base b0 : Nat} {v : Value} {d : DataW H} {p : List MemPlace}
    (hv : Value.okWide Tryd.prog w .any b0 25 v) (h : DataW.Trod enc Tryd.prog w base (fun _ => true) true 25 v d p) :
    ∃ ca ta cc tc c, v = .agg #[.slice ca c.cl.length cc, .int .i64 c.page, .slice ta c.ts.length tc, .int .i64 c.wk, .int .i64 c.gr, .int .i64 c.gens] ∧ CfgAt w ca ta cc tc c := by
  obtain ⟨cs, rfl, hsz⟩ := okWide_struct Tryd.underlying25 hv
  obtain ⟨l⟩ := cs
  have hl6 : l.length = 6 := by rw [cells_cfg] at hsz; simpa using hsz
  obtain ⟨fuel, hf⟩ := h
  obtain ⟨xs, n, _, _, _, hlen, hg⟩ := DataW.trod_struct Tryd.underlying25 hf
  match l, hl6 with
  | [c0, c1, c2, c3, c4, c5], _ =>
    match xs, hlen with
    | [y0, y1, y2, y3, y4, y5], _ =>
      have g0 := hg 0 _ rfl
      have g1 := hg 1 _ rfl
      have g2 := hg 2 _ rfl
      have g3 := hg 3 _ rfl
      have g4 := hg 4 _ rfl
      have g5 := hg 5 _ rfl
      simp [Value.cells, cells_ints, cells_tens, cells_int] at g0 g1 g2 g3 g4 g5
      obtain ⟨q1, r1, _, _⟩ := DataW.trod_int Tryd.underlying3 g1
      obtain ⟨q3, r3, _, _⟩ := DataW.trod_int Tryd.underlying3 g3
      obtain ⟨q4, r4, _, _⟩ := DataW.trod_int Tryd.underlying3 g4
      obtain ⟨q5, r5, _, _⟩ := DataW.trod_int Tryd.underlying3 g5
      simp at r1 r3 r4 r5
      subst r1 r3 r4 r5
      obtain ⟨ta, tl, tc, ts, rfl, hts, hta, ht1, ht2⟩ := open_tens g2
      rcases open_ints Tryd.underlying22 Tryd.underlying3 cells_int g0 with ⟨h0, _⟩ | ⟨x, cl, cc, zs, hcs, _, hl, hm, hz, _, hcell, hwz⟩
      · simp at h0
        subst h0 hts
        exact ⟨none, ta, 0, tc, ⟨[], q1, ts, q3, q4, q5⟩, rfl, At.nil, hta, Nat.zero_le _, by show ts.length ≤ _; omega, Nat.le_refl _, ht1, Nat.zero_le _, ht2⟩
      · simp at hcs
        subst hcs hts
        obtain ⟨k1, k2, k3, _⟩ := At.of_row (k := .i64) (w := w) (a := some x) (len := cl) (cap := cc) (zs := zs) (.inr ⟨x, rfl, hl, hm, by simpa using hz, hcell, hwz⟩)
        refine ⟨some x, ta, cc, tc, ⟨zs.take cl, q1, ts, q3, q4, q5⟩, by simp only [k2], k1, hta, by show (zs.take cl).length ≤ _; omega, by show ts.length ≤ _; omega, by show (zs.take cl).length ≤ _; omega, ht1, hm, ht2⟩

end Go.Proofs.YtlhajoamebfniaaDoor

/-! What the condition 'this package variable reads as these numbers' gives: the variable's cells. -/
namespace Go.Proofs.YtlhajoamebfniaaDoor
open Go.ChangeShapes Go.WideShapes Go.ChangeAt Go.RowKit

/-- The datum of a row of numbers. -/
def nums {H : Type} (k : IntKind) (zs : List Int) : DataW H := .agg (zs.map fun z => .lit (.int k z))

theorem var_ints {P : Program} {name : String} {k : IntKind} {zs : List Int} {W : World} {t e : TypeId} {n g : Nat} (h : laidMetH P [(name, nums k zs)] W)
    (hg : P.globalNamed name = some g) (ht : (P.globals[g]?).map (·.type) = some t) (hu : P.underlying t = some (.array n e)) (he : P.underlying e = some (.int k)) (hc : P.cellsOf e = 1) (hn : zs.length = n) :
    ∀ i, i < n → W.cell? ⟨g, i, none⟩ = some (.int k (nth zs i)) := by
  rw [MakeChecks.laidMetH_plain _ _ _ (by rfl)] at h
  obtain ⟨ps, ⟨g0, t0, cs0, f0, p0, q0, hg0, ht0, hv0, hd0, _, _⟩, _, _⟩ := h
  obtain rfl := Option.some.inj (hg.symm.trans hg0)
  obtain rfl := Option.some.inj (ht.symm.trans ht0)
  obtain ⟨xs, m, rfl, hx, hlen, hn3, hel⟩ := DataW.trod_array hu hd0
  simp only [Prod.mk.injEq, nums, DataW.agg.injEq] at hx
  intro i hi
  have hi' := hel i hi
  rw [hc, Nat.mul_one] at hi'
  have hxi : i < xs.length := by omega
  rw [List.getElem?_eq_getElem hxi] at hi'
  obtain ⟨z, e1, e2, _⟩ := DataW.trod_int he hi'
  have hz : z = nth zs i := by
    have h1 := congrArg (fun l => l[i]?) hx.1
    simp only [List.getElem?_map, List.getElem?_eq_getElem hxi, List.getElem?_eq_getElem (show i < zs.length by omega), Option.map_some, Option.some.injEq] at h1
    rw [e2] at h1
    have : zs[i] = z := by simpa using h1
    rw [← this]; simp [nth, List.getD, show i < zs.length by omega]
  rw [World.var?_cell hg0 hv0 i, ← hz]
  obtain ⟨l⟩ := cs0
  have e3 : (l.drop i).take 1 = [.int k z] := e1
  have e4 : (l.drop i).head? = some (.int k z) := by
    cases hd : l.drop i with
    | nil => rw [hd] at e3; cases e3
    | cons a r => rw [hd] at e3; simp at e3; simp [e3]
  rw [List.head?_drop] at e4
  simpa using e4

end Go.Proofs.YtlhajoamebfniaaDoor

/-! Rows of small numbers among a law's arguments, opened; the package variable math/bits.deBruijn64tab. -/
namespace Go.Proofs.YtlhajoamebfniaaDoor
open Go.ChangeShapes Go.WideShapes Go.ChangeAt Go.RowKit Go.Deep

theorem tab_of_laid {W : World} (h : laidMetH Tryd.prog [("math/bits.deBruijn64tab", Rows.laid_math_bits_deBruijn64tab)] W) : Tab W := by
  have k := var_ints (k := .u8) (zs := Lib.deBruijn64tab.map Int.ofNat) (t := 159) (e := 5) (n := 64) (g := 0) h (by kernel_rfl) (by kernel_rfl) Tryd.underlying159 Tryd.underlying5 (by kernel_rfl) rfl
  intro j hj
  rw [k j hj]
  have hl : Lib.deBruijn64tab.length = 64 := rfl
  have e : nth (Lib.deBruijn64tab.map Int.ofNat) j = ((Lib.deBruijn64tab.getD j 0 : Nat) : Int) := by
    simp [nth, List.getD, hl, hj]
  rw [e]

end Go.Proofs.YtlhajoamebfniaaDoor
