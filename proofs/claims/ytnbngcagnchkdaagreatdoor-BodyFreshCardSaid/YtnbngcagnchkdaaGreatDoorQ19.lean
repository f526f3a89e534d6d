/-
  Merged texts: Wf, Door, BodRow, CfgRow, Law11m.
-/
import Derived.ProofKit
import Derived.OpenShut
import Derived.Test.YtnbngcagnchkdaaGreatDoorRows
import Derived.Test.YtnbngcagnchkdaaGreatDoorQ01
import Derived.LaidMore
import Derived.Test.YtnbngcagnchkdaaGreatDoorProg
import Derived.Test.YtnbngcagnchkdaaGreatDoorQ15
import Derived.Deep.Slices
import Derived.Deep.Fields
import Derived.Test.YtnbngcagnchkdaaGreatDoorQ02
import Derived.Test.YtnbngcagnchkdaaGreatDoorQ16
import Derived.Test.YtnbngcagnchkdaaGreatDoorQ17
set_option linter.unusedVariables false
set_option linter.unusedSimpArgs false
/-! What a literal's being well formed says of numbers. -/
namespace Go.Proofs.YtnbngcagnchkdaaGreatDoor

theorem wf8 {n : Int} (h : (Lit.int .u8 n).wf = true) : 0 ≤ n ∧ n ≤ 255 := by
  simp [Lit.wf, IntKind.min, IntKind.max, IntKind.signed, IntKind.bits] at h; omega
theorem wf16 {n : Int} (h : (Lit.int .u16 n).wf = true) : 0 ≤ n ∧ n ≤ 65535 := by
  simp [Lit.wf, IntKind.min, IntKind.max, IntKind.signed, IntKind.bits] at h; omega
theorem wf32 {n : Int} (h : (Lit.int .u32 n).wf = true) : 0 ≤ n ∧ n ≤ 4294967295 := by
  simp [Lit.wf, IntKind.min, IntKind.max, IntKind.signed, IntKind.bits] at h; omega
theorem wfi {n : Int} (h : (Lit.int .i64 n).wf = true) : -9223372036854775808 ≤ n ∧ n ≤ 9223372036854775807 := by
  simp [Lit.wf, IntKind.min, IntKind.max, IntKind.signed, IntKind.bits] at h; omega
theorem wf64 {n : Int} (h : (Lit.int .u64 n).wf = true) : 0 ≤ n ∧ n < 18446744073709551616 := by
  simp [Lit.wf, IntKind.min, IntKind.max, IntKind.signed, IntKind.bits] at h; omega

end Go.Proofs.YtnbngcagnchkdaaGreatDoor

/-! What the condition 'this package variable reads as these numbers' gives: the variable's cells. -/
namespace Go.Proofs.YtnbngcagnchkdaaGreatDoor
open Go.ChangeShapes Go.WideShapes Go.ChangeAt Go.RowKit

/-- The datum of a row of numbers. -/
def nums {H : Type} (k : IntKind) (zs : List Int) : DataW H := .agg (zs.map fun z => .lit (.int k z))

theorem var_ints {P : Program} {name : String} {k : IntKind} {zs : List Int} {W : World} {t e : TypeId} {n g : Nat} (h : laidMetH P [(name, nums k zs)] W)
    (hg : P.globalNamed name = some g) (ht : (P.globals[g]?).map (·.type) = some t) (hu : P.underlying t = some (.array n e)) (he : P.underlying e = some (.int k)) (hc : P.cellsOf e = 1) (hn : zs.length = n) :
    ∀ i, i < n → W.cell? ⟨g, i, none⟩ = some (.int k (nth zs i)) := by
  rw [MakeChecks.laidMetH_plain _ _ _ (by rfl)] at h
  obtain ⟨ps, ⟨g0, t0, cs0, f0, p0, q0, hg0, ht0, hv0, hd0, _, _⟩, _, _⟩ := h
  obtain rfl := Option.some.inj (hg.symm.trans hg0)
  obtain rfl := Option.some.inj (ht.symm.trans ht0)
  obtain ⟨xs, m, rfl, hx, hlen, hn3, hel⟩ := DataW.trod_array hu hd0
  simp only [Prod.mk.injEq, nums, DataW.agg.injEq] at hx
  intro i hi
  have hi' := hel i hi
  rw [hc, Nat.mul_one] at hi'
  have hxi : i < xs.length := by omega
  rw [List.getElem?_eq_getElem hxi] at hi'
  obtain ⟨z, e1, e2, _⟩ := DataW.trod_int he hi'
  have hz : z = nth zs i := by
    have h1 := congrArg (fun l => l[i]?) hx.1
    simp only [List.getElem?_map, List.getElem?_eq_getElem hxi, List.getElem?_eq_getElem (show i < zs.length by omega), Option.map_some, Option.some.injEq] at h1
    rw [e2] at h1
    have : zs[i] = z := by simpa using h1
    rw [← this]; simp [nth, List.getD, show i < zs.length by omega]
  rw [World.var?_cell hg0 hv0 i, ← hz]
  obtain ⟨l⟩ := cs0
  have e3 : (l.drop i).take 1 = [.int k z] := e1
  have e4 : (l.drop i).head? = some (.int k z) := by
    cases hd : l.drop i with
    | nil => rw [hd] at e3; cases e3
    | cons a r => rw [hd] at e3; simp at e3; simp [e3]
  rw [List.head?_drop] at e4
  simpa using e4

end Go.Proofs.YtnbngcagnchkdaaGreatDoor

/-! Acts (commonagelaw11.Act), rows of words among a law's arguments, opened; the package variable head.widths. -/
namespace Go.Proofs.YtnbngcagnchkdaaGreatDoor
open Go.ChangeShapes Go.WideShapes Go.ChangeAt Go.RowKit Go.Deep

theorem cells_bact : Tryz.prog.cellsOf 31 = 8 := by kernel_rfl
theorem cells_bhead : Tryz.prog.cellsOf 29 = 3 := by kernel_rfl
theorem cells_bint : Tryz.prog.cellsOf 3 = 1 := by kernel_rfl
theorem cells_bu8 : Tryz.prog.cellsOf 5 = 1 := by kernel_rfl
theorem cells_bu64 : Tryz.prog.cellsOf 27 = 1 := by kernel_rfl

set_option maxRecDepth 100000 in
/-- The cells of an act. -/
theorem trod_OAct {H : Type} {enc : TypeId × Value → H} {w : World} {base m : Nat} {e0 e1 e2 e3 e4 e5 e6 e7 : Value} {y : DataW H × List MemPlace}
    (h : DataW.trod enc Tryz.prog w base (fun _ => true) true m 31 [e0, e1, e2, e3, e4, e5, e6, e7] = some y) :
    ∃ t : OAct, t.Ok ∧ e0 = .int .u8 t.what ∧ e1 = .int .i64 t.slot ∧ e2 = .int .i64 t.i ∧ e3 = .int .i64 t.to ∧ e4 = .int .u64 t.w ∧ e5 = .int .i64 t.hc ∧ e6 = .int .i64 t.hr ∧ e7 = .int .i64 t.hw := by
  obtain ⟨xs, n2, _, _, _, hlen, hg⟩ := DataW.trod_struct Tryz.underlying31 h
  match xs, hlen with
  | [y0, y1, y2, y3, y4, y5], _ =>
    have g0 := hg 0 _ rfl
    have g1 := hg 1 _ rfl
    have g2 := hg 2 _ rfl
    have g3 := hg 3 _ rfl
    have g4 := hg 4 _ rfl
    have g5 := hg 5 _ rfl
    simp [cells_bint, cells_bu8, cells_bu64, cells_bhead] at g0 g1 g2 g3 g4 g5
    obtain ⟨zs, n3, _, _, _, hlen2, hk⟩ := DataW.trod_struct Tryz.underlying29 g5
    match zs, hlen2 with
    | [z0, z1, z2], _ =>
      have g5 := hk 0 _ rfl
      have g6 := hk 1 _ rfl
      have g7 := hk 2 _ rfl
      simp [cells_bint] at g5 g6 g7
      obtain ⟨q0, r0, _, w0⟩ := DataW.trod_int Tryz.underlying5 g0
      obtain ⟨q1, r1, _, w1⟩ := DataW.trod_int Tryz.underlying3 g1
      obtain ⟨q2, r2, _, w2⟩ := DataW.trod_int Tryz.underlying3 g2
      obtain ⟨q3, r3, _, w3⟩ := DataW.trod_int Tryz.underlying3 g3
      obtain ⟨q4, r4, _, w4⟩ := DataW.trod_int Tryz.underlying27 g4
      obtain ⟨q5, r5, _, w5⟩ := DataW.trod_int Tryz.underlying3 g5
      obtain ⟨q6, r6, _, w6⟩ := DataW.trod_int Tryz.underlying3 g6
      obtain ⟨q7, r7, _, w7⟩ := DataW.trod_int Tryz.underlying3 g7
      simp at r0 r1 r2 r3 r4 r5 r6 r7
      exact ⟨⟨q0, q1, q2, q3, q4, q5, q6, q7⟩, ⟨wf8 w0, wfi w1, wfi w2, wfi w3, wf64 w4, wfi w5, wfi w6, wfi w7⟩, r0, r1, r2, r3, r4, r5, r6, r7⟩

set_option maxRecDepth 100000 in
/-- An act by itself. -/
theorem open_oact {H : Type} {enc : TypeId × Value → H} {w : World} {base b0 : Nat} {v : Value} {d : DataW H} {p : List MemPlace}
    (hv : Value.okWide Tryz.prog w .any b0 31 v) (h : DataW.Trod enc Tryz.prog w base (fun _ => true) true 31 v d p) :
    ∃ x : OAct, v = .agg #[.int .u8 x.what, .int .i64 x.slot, .int .i64 x.i, .int .i64 x.to, .int .u64 x.w, .int .i64 x.hc, .int .i64 x.hr, .int .i64 x.hw] ∧ x.Ok := by
  obtain ⟨cs, rfl, hsz⟩ := okWide_struct Tryz.underlying31 hv
  obtain ⟨l⟩ := cs
  have hl : l.length = 8 := by rw [cells_bact] at hsz; simpa using hsz
  obtain ⟨fuel, hf⟩ := h
  match l, hl with
  | [e0, e1, e2, e3, e4, e5, e6, e7], _ =>
    obtain ⟨t, ok, rfl, rfl, rfl, rfl, rfl, rfl, rfl, rfl⟩ := trod_OAct hf
    exact ⟨t, rfl, ok⟩

theorem choose_OAct {n : Nat} {Q : Nat → OAct → Prop} (h : ∀ i, i < n → ∃ t, Q i t) : ∃ ts : List OAct, ts.length = n ∧ ∀ i, i < n → Q i (oActnth ts i) := by
  induction n with
  | zero => exact ⟨[], rfl, fun i hi => absurd hi (Nat.not_lt_zero _)⟩
  | succ n ih =>
    obtain ⟨ts, hl, hq⟩ := ih fun i hi => h i (by omega)
    obtain ⟨t, ht⟩ := h n (by omega)
    refine ⟨ts ++ [t], by simp [hl], fun i hi => ?_⟩
    rcases Nat.lt_or_ge i n with c | c
    · have : oActnth (ts ++ [t]) i = oActnth ts i := by simp [oActnth, List.getD, List.getElem?_append, hl, c]
      rw [this]; exact hq i c
    · obtain rfl : i = n := by omega
      have : oActnth (ts ++ [t]) i = t := by simp [oActnth, List.getD, ← hl]
      rw [this]; exact ht
theorem oAct_spot {w : World} {a : Addr} {v : Value} (h : w.cell? a = some v) : a.spot = none := by
  obtain ⟨b, o, s⟩ := a
  cases s with
  | none => rfl
  | some s =>
    simp [World.cell?] at h
    split at h <;> cases h
set_option maxRecDepth 100000 in
/-- A row of acts. -/
theorem open_OAct {H : Type} {enc : TypeId × Value → H} {w : World} {base b0 : Nat} {v : Value} {d : DataW H} {p : List MemPlace}
    (hv : Value.okWide Tryz.prog w .any b0 26 v) (h : DataW.Trod enc Tryz.prog w base (fun _ => true) true 26 v d p) :
    ∃ (a : Option Addr) (cap : Nat) (l : List OAct), v = .slice a l.length cap ∧ OActAt w a l ∧ l.length ≤ maxLen ∧ cap ≤ maxLen ∧ (a = none → cap = 0) := by
  obtain ⟨a0, len0, cap0, rfl⟩ := okWide_slice Tryz.underlying26 hv
  obtain ⟨fuel, hf⟩ := h
  rcases open_slice Tryz.underlying26 hf with ⟨h0, _⟩ | ⟨a, len, cap, m, n', D, Pl, hcs, _, hl, hm, hmm, _, hi⟩
  · simp [Value.cells] at h0
    obtain ⟨rfl, rfl, rfl⟩ := h0
    exact ⟨none, 0, [], rfl, fun i hi => absurd hi (Nat.not_lt_zero _), by decide, by decide, fun _ => rfl⟩
  · simp [Value.cells] at hcs hmm
    obtain ⟨rfl, rfl, rfl⟩ := hcs
    subst hmm
    have key : ∀ i, i < len0 → ∃ t : OAct, t.Ok ∧ w.cell? (a.add (i * 8)) = some (.int .u8 t.what) ∧ w.cell? ((a.add (i * 8)).add 1) = some (.int .i64 t.slot) ∧ w.cell? ((a.add (i * 8)).add 2) = some (.int .i64 t.i) ∧ w.cell? ((a.add (i * 8)).add 3) = some (.int .i64 t.to) ∧ w.cell? ((a.add (i * 8)).add 4) = some (.int .u64 t.w) ∧ w.cell? ((a.add (i * 8)).add 5) = some (.int .i64 t.hc) ∧ w.cell? ((a.add (i * 8)).add 6) = some (.int .i64 t.hr) ∧ w.cell? ((a.add (i * 8)).add 7) = some (.int .i64 t.hw) := by
      intro i hi'
      obtain ⟨cs', hc, ht⟩ := hi i (by omega)
      rw [cells_bact] at hc
      obtain ⟨_, hcl, hat⟩ := World.cells?_some hc
      match cs', hcl with
      | [e0, e1, e2, e3, e4, e5, e6, e7], _ =>
        obtain ⟨t, ok, rfl, rfl, rfl, rfl, rfl, rfl, rfl, rfl⟩ := trod_OAct ht
        have k0 := hat 0 (by omega)
        simp at k0
        refine ⟨t, ok, by simpa [Addr.add] using k0, hat 1 (by omega), hat 2 (by omega), hat 3 (by omega), hat 4 (by omega), hat 5 (by omega), hat 6 (by omega), hat 7 (by omega)⟩
    obtain ⟨ts, hts, hq⟩ := choose_OAct key
    refine ⟨some a, _, ts, by rw [hts], fun i hi' => ?_, by omega, by omega, fun e => by cases e⟩
    rw [hts] at hi'
    have hs : a.spot = none := by
      have := (hq 0 (by omega)).2.1
      exact oAct_spot (by simpa [Addr.add] using this)
    obtain ⟨b, o, s⟩ := a
    cases hs
    obtain ⟨ok, u0, u1, u2, u3, u4, u5, u6, u7⟩ := hq i hi'
    rw [Addr.add_lit] at u0 u1 u2 u3 u4 u5 u6 u7
    rw [Addr.add_lit] at u1 u2 u3 u4 u5 u6 u7
    exact ⟨ok, b, o, rfl, u0, u1, u2, u3, u4, u5, u6, u7⟩

set_option maxRecDepth 100000 in
/-- A row of words. -/
theorem open_u64s {H : Type} {enc : TypeId × Value → H} {w : World} {base b0 : Nat} {v : Value} {d : DataW H} {p : List MemPlace}
    (hv : Value.okWide Tryz.prog w .any b0 52 v) (h : DataW.Trod enc Tryz.prog w base (fun _ => true) true 52 v d p) :
    ∃ (a : Option Addr) (cap : Nat) (l : List Int), v = .slice a l.length cap ∧ At .u64 w a l ∧ l.length ≤ maxLen ∧ ∀ x ∈ l, 0 ≤ x ∧ x < 18446744073709551616 := by
  obtain ⟨a, len, cap, rfl⟩ := okWide_slice Tryz.underlying52 hv
  obtain ⟨fuel, hf⟩ := h
  have key : ∃ zs : List Int, (a = none ∧ len = 0 ∧ cap = 0 ∧ zs = []) ∨ ∃ x, a = some x ∧ len ≤ cap ∧ cap ≤ maxLen ∧ zs.length = cap ∧ (∀ i, i < zs.length → w.cell? (x.add i) = some (.int .u64 (zs.getD i 0))) ∧ ∀ n ∈ zs, (Lit.int .u64 n).wf = true := by
    rcases open_ints Tryz.underlying52 Tryz.underlying27 (by kernel_rfl) hf with ⟨hcs, _⟩ | ⟨x, l, c, zs, hcs, _, hl, hm, hz, _, hcell, hwz⟩
    · simp [Value.cells] at hcs
      obtain ⟨rfl, rfl, rfl⟩ := hcs
      exact ⟨[], .inl ⟨rfl, rfl, rfl, rfl⟩⟩
    · simp [Value.cells] at hcs
      obtain ⟨rfl, rfl, rfl⟩ := hcs
      exact ⟨zs, .inr ⟨_, rfl, hl, hm, by simpa using hz, hcell, hwz⟩⟩
  obtain ⟨zs, hz⟩ := key
  obtain ⟨h1, h2, h3, h4⟩ := At.of_row hz
  exact ⟨a, cap, zs.take len, by rw [h2], h1, by rw [h2]; exact h3, fun x hx => wf64 (h4 x hx)⟩

theorem wid_of_laid {W : World} (h : laidMetH Tryz.prog [("commonage/head.widths", Rows.laid_commonage_head_widths)] W) : Wid W := by
  have k := var_ints (k := .i64) (zs := hdws) (t := 144) (e := 3) (n := 5) (g := 0) h (by kernel_rfl) (by kernel_rfl) Tryz.underlying144 Tryz.underlying3 (by kernel_rfl) rfl
  exact ⟨k 0 (by decide), k 1 (by decide), k 2 (by decide), k 3 (by decide), k 4 (by decide)⟩

end Go.Proofs.YtnbngcagnchkdaaGreatDoor

/-! A configuration among a law's arguments, opened: the value as it stands in the walks, and where its classes and tenants lie. -/
namespace Go.Proofs.YtnbngcagnchkdaaGreatDoor
open Go.ChangeShapes Go.WideShapes Go.ChangeAt Go.RowKit Go.Deep

theorem wf_u8 {n : Int} (h : (Lit.int .u8 n).wf = true) : 0 ≤ n ∧ n ≤ 255 := by
  simp [Lit.wf, IntKind.min, IntKind.max, IntKind.signed, IntKind.bits] at h; omega
theorem wf_i64 {n : Int} (h : (Lit.int .i64 n).wf = true) : -9223372036854775808 ≤ n ∧ n ≤ 9223372036854775807 := by
  simp [Lit.wf, IntKind.min, IntKind.max, IntKind.signed, IntKind.bits] at h; omega
theorem wf_u64 {n : Int} (h : (Lit.int .u64 n).wf = true) : 0 ≤ n ∧ n ≤ 18446744073709551615 := by
  simp [Lit.wf, IntKind.min, IntKind.max, IntKind.signed, IntKind.bits] at h; omega

theorem cells_cfg : Tryz.prog.cellsOf 25 = 6 := by kernel_rfl
theorem cells_ten : Tryz.prog.cellsOf 90 = 4 := by kernel_rfl
theorem cells_ints : Tryz.prog.cellsOf 22 = 1 := by kernel_rfl
theorem cells_tens : Tryz.prog.cellsOf 23 = 1 := by kernel_rfl
theorem cells_int : Tryz.prog.cellsOf 3 = 1 := by kernel_rfl

theorem choose_tens {n : Nat} {Q : Nat → Ten → Prop} (h : ∀ i, i < n → ∃ t, Q i t) : ∃ ts : List Ten, ts.length = n ∧ ∀ i, i < n → Q i (tnth ts i) := by
  induction n with
  | zero => exact ⟨[], rfl, fun i hi => absurd hi (Nat.not_lt_zero _)⟩
  | succ n ih =>
    obtain ⟨ts, hl, hq⟩ := ih fun i hi => h i (by omega)
    obtain ⟨t, ht⟩ := h n (by omega)
    refine ⟨ts ++ [t], by simp [hl], fun i hi => ?_⟩
    rcases Nat.lt_or_ge i n with c | c
    · have : tnth (ts ++ [t]) i = tnth ts i := by simp [tnth, List.getD, List.getElem?_append, hl, c]
      rw [this]; exact hq i c
    · obtain rfl : i = n := by omega
      have : tnth (ts ++ [t]) i = t := by simp [tnth, List.getD, ← hl]
      rw [this]; exact ht

theorem spot_none {w : World} {a : Addr} {v : Value} (h : w.cell? a = some v) : a.spot = none := by
  obtain ⟨b, o, s⟩ := a
  cases s with
  | none => rfl
  | some s =>
    simp [World.cell?] at h
    split at h <;> cases h

set_option maxRecDepth 100000 in
/-- Tenants among what was read. -/
theorem open_tens {H : Type} {enc : TypeId × Value → H} {w : World} {base n : Nat} {c0 : Value} {y : DataW H × List MemPlace} (h : DataW.trod enc Tryz.prog w base (fun _ => true) true n 23 [c0] = some y) :
    ∃ ta len tc ts, c0 = .slice ta len tc ∧ ts.length = len ∧ TenAt w ta ts ∧ len ≤ tc ∧ tc ≤ maxLen := by
  rcases open_slice Tryz.underlying23 h with ⟨h0, _⟩ | ⟨a, len, cap, m, n', D, Pl, hcs, _, hl, hm, hmm, _, hi⟩
  · simp at h0
    exact ⟨none, 0, 0, [], h0, rfl, fun i hi => absurd hi (Nat.not_lt_zero _), Nat.le_refl _, by decide⟩
  · simp at hcs hmm
    subst hmm
    have key : ∀ i, i < len → ∃ t : Ten, w.cell? (a.add (i * 4)) = some (.int .i64 t.q) ∧ w.cell? ((a.add (i * 4)).add 1) = some (.int .i64 t.tr) ∧ w.cell? ((a.add (i * 4)).add 2) = some (.int .i64 t.cp) ∧ w.cell? ((a.add (i * 4)).add 3) = some (.int .i64 t.sst) := by
      intro i hi'
      obtain ⟨cs', hc, ht⟩ := hi i (by omega)
      rw [cells_ten] at hc
      obtain ⟨_, hcl, hat⟩ := World.cells?_some hc
      obtain ⟨xs, n2, _, _, _, hlen, hg⟩ := DataW.trod_struct Tryz.underlying90 ht
      match cs', hcl with
      | [e0, e1, e2, e3], _ =>
        match xs, hlen with
        | [y0, y1, y2, y3], _ =>
          have g0 := hg 0 _ rfl
          have g1 := hg 1 _ rfl
          have g2 := hg 2 _ rfl
          have g3 := hg 3 _ rfl
          simp [cells_int] at g0 g1 g2 g3
          obtain ⟨q0, r0, _, _⟩ := DataW.trod_int Tryz.underlying3 g0
          obtain ⟨q1, r1, _, _⟩ := DataW.trod_int Tryz.underlying3 g1
          obtain ⟨q2, r2, _, _⟩ := DataW.trod_int Tryz.underlying3 g2
          obtain ⟨q3, r3, _, _⟩ := DataW.trod_int Tryz.underlying3 g3
          have k0 := hat 0 (by omega)
          have k1 := hat 1 (by omega)
          have k2 := hat 2 (by omega)
          have k3 := hat 3 (by omega)
          simp at r0 r1 r2 r3 k0 k1 k2 k3
          refine ⟨⟨q0, q1, q2, q3⟩, ?_, ?_, ?_, ?_⟩
          · simpa [r0, Addr.add] using k0
          · rw [k1, r1]
          · rw [k2, r2]
          · rw [k3, r3]
    obtain ⟨ts, hts, hq⟩ := choose_tens key
    refine ⟨some a, len, _, ts, hcs, hts, ?_, hl, hm⟩
    intro i hi'
    have hs : a.spot = none := by
      have := (hq 0 (by omega)).1
      exact spot_none (by simpa [Addr.add] using this)
    obtain ⟨b, o, s⟩ := a
    cases hs
    obtain ⟨u0, u1, u2, u3⟩ := hq i (by omega)
    rw [Addr.add_lit] at u0 u1 u2 u3
    rw [Addr.add_lit] at u1 u2 u3
    exact ⟨b, o, rfl, u0, u1, u2, u3⟩

set_option maxRecDepth 100000 in
theorem open_cfg {H : Type} {enc : TypeId × Value → H} {w : World} {base b0 : Nat} {v : Value} {d : DataW H} {p : List MemPlace}
    (hv : Value.okWide Tryz.prog w .any b0 25 v) (h : DataW.Trod enc Tryz.prog w base (fun _ => true) true 25 v d p) :
    ∃ ca ta cc tc c, v = .agg #[.slice ca c.cl.length cc, .int .i64 c.page, .slice ta c.ts.length tc, .int .i64 c.wk, .int .i64 c.gr, .int .i64 c.gens] ∧ CfgAt w ca ta cc tc c := by
  obtain ⟨cs, rfl, hsz⟩ := okWide_struct Tryz.underlying25 hv
  obtain ⟨l⟩ := cs
  have hl6 : l.length = 6 := by rw [cells_cfg] at hsz; simpa using hsz
  obtain ⟨fuel, hf⟩ := h
  obtain ⟨xs, n, _, _, _, hlen, hg⟩ := DataW.trod_struct Tryz.underlying25 hf
  match l, hl6 with
  | [c0, c1, c2, c3, c4, c5], _ =>
    match xs, hlen with
    | [y0, y1, y2, y3, y4, y5], _ =>
      have g0 := hg 0 _ rfl
      have g1 := hg 1 _ rfl
      have g2 := hg 2 _ rfl
      have g3 := hg 3 _ rfl
      have g4 := hg 4 _ rfl
      have g5 := hg 5 _ rfl
      simp [Value.cells, cells_ints, cells_tens, cells_int] at g0 g1 g2 g3 g4 g5
      obtain ⟨q1, r1, _, _⟩ := DataW.trod_int Tryz.underlying3 g1
      obtain ⟨q3, r3, _, _⟩ := DataW.trod_int Tryz.underlying3 g3
      obtain ⟨q4, r4, _, _⟩ := DataW.trod_int Tryz.underlying3 g4
      obtain ⟨q5, r5, _, _⟩ := DataW.trod_int Tryz.underlying3 g5
      simp at r1 r3 r4 r5
      subst r1 r3 r4 r5
      obtain ⟨ta, tl, tc, ts, rfl, hts, hta, ht1, ht2⟩ := open_tens g2
      rcases open_ints Tryz.underlying22 Tryz.underlying3 cells_int g0 with ⟨h0, _⟩ | ⟨x, cl, cc, zs, hcs, _, hl, hm, hz, _, hcell, hwz⟩
      · simp at h0
        subst h0 hts
        exact ⟨none, ta, 0, tc, ⟨[], q1, ts, q3, q4, q5⟩, rfl, At.nil, hta, Nat.zero_le _, by show ts.length ≤ _; omega, Nat.le_refl _, ht1, Nat.zero_le _, ht2⟩
      · simp at hcs
        subst hcs hts
        obtain ⟨k1, k2, k3, _⟩ := At.of_row (k := .i64) (w := w) (a := some x) (len := cl) (cap := cc) (zs := zs) (.inr ⟨x, rfl, hl, hm, by simpa using hz, hcell, hwz⟩)
        refine ⟨some x, ta, cc, tc, ⟨zs.take cl, q1, ts, q3, q4, q5⟩, by simp only [k2], k1, hta, by show (zs.take cl).length ≤ _; omega, by show ts.length ≤ _; omega, by show (zs.take cl).length ≤ _; omega, ht1, hm, ht2⟩

end Go.Proofs.YtnbngcagnchkdaaGreatDoor

/-! commonagelaw11: BodyReads. (Printed by wip/gen11o.py.) -/
namespace Go.Proofs.YtnbngcagnchkdaaGreatDoor
open Go.RowKit
variable {w w' W : World}

theorem ba2 (w : World) {z : Nat} (hz : w.heap.size = z) (ca0 ta : Option Addr) (cc0 tc : Nat) (c : Conf) (y : OAct) :
    ∃ W, (w.alloc (.cells #[.slice ca0 c.cl.length cc0, .int .i64 c.page, .slice ta c.ts.length tc, .int .i64 c.wk, .int .i64 c.gr, .int .i64 c.gens] 25)).alloc (.cells #[.int .u8 y.what, .int .i64 y.slot, .int .i64 y.i, .int .i64 y.to, .int .u64 y.w, .int .i64 y.hc, .int .i64 y.hr, .int .i64 y.hw] 31) = W ∧ BoxG W z [.slice ca0 c.cl.length cc0, .int .i64 c.page, .slice ta c.ts.length tc, .int .i64 c.wk, .int .i64 c.gr, .int .i64 c.gens] ∧ BoxG W (z + 1) [.int .u8 y.what, .int .i64 y.slot, .int .i64 y.i, .int .i64 y.to, .int .u64 y.w, .int .i64 y.hc, .int .i64 y.hr, .int .i64 y.hw] ∧ Ext w W :=
  ⟨_, rfl, (BoxG.new w _ _ hz).ext ((Ext.refl _).alloc _), BoxG.new _ _ _ (by simp [hz]), ((Ext.refl w).alloc _).alloc _⟩
theorem WOk.store {ws ws' : List Int} {t a x k : Int} {c : Conf} (h : WOk ws) (hx : 0 ≤ x ∧ x < 18446744073709551616) (hr : storeR c ws t a x = (ws', k)) : WOk ws' := by
  unfold storeR at hr
  split at hr
  · cases hr; exact h.set _ hx
  · cases hr; exact h

set_option maxRecDepth 100000 in
set_option maxHeartbeats 32000000 in
theorem law11_BodyReads {ca0 ta la : Option Addr} {cc0 tc lcc : Nat} (c : Conf) (l : List Int) (y : OAct) (w : World) (hW : Wid w) (h : CfgAt w ca0 ta cc0 tc c) (hl : At .u64 w la l) (hlm : l.length ≤ maxLen) (hlx : ∀ x ∈ l, 0 ≤ x ∧ x < 18446744073709551616) (hy : y.Ok) :
    Calls Tryz.prog 5 #[.agg #[.slice ca0 c.cl.length cc0, .int .i64 c.page, .slice ta c.ts.length tc, .int .i64 c.wk, .int .i64 c.gr, .int .i64 c.gens], .slice la l.length lcc, .agg #[.int .u8 y.what, .int .i64 y.slot, .int .i64 y.i, .int .i64 y.to, .int .u64 y.w, .int .i64 y.hc, .int .i64 y.hr, .int .i64 y.hw]] w fun e w' => e = .returned (.bool true) ∧ Ext w w' := by
  have H := Lib.hid h; have HW := Lib.hid hW
  clear h hW
  have HL := Lib.hid hl; have HY := Lib.hid hy
  have HX : Hid (∀ k, 0 ≤ nth l k ∧ nth l k < 18446744073709551616) := Lib.hid (fun k => by
    by_cases hk : k < l.length
    · rw [show nth l k = l[k] by simp [nth, List.getD, hk]]; exact hlx _ (List.getElem_mem hk)
    · rw [show nth l k = 0 by simp [nth, List.getD, Nat.le_of_not_lt hk]]; omega)
  unfold maxLen at hlm
  clear hl hy hlx
  obtain ⟨z, hz⟩ : ∃ z, w.heap.size = z := ⟨_, rfl⟩
  obtain ⟨W0, hW0, hB0, hY0, hX0⟩ := ba2 w hz ca0 ta cc0 tc c y
  have X0 := Lib.hid hX0; have B0 := Lib.hid hB0; have Y0 := Lib.hid hY0
  clear hX0 hB0 hY0
  have b0 := B0.out.c 0 _ rfl; have b1 := B0.out.c 1 _ rfl; have b2 := B0.out.c 2 _ rfl; have b3 := B0.out.c 3 _ rfl; have b4 := B0.out.c 4 _ rfl; have b5 := B0.out.c 5 _ rfl
  have bz := B0.out.lt
  by_cases hg : bigB c = false ∧ kcheck c = 0
  · obtain ⟨hg, h0⟩ := hg
    have ho := kcheck_ok h0
    have hi : 0 < c.ts.length := ho.head.2.2.1
    have CM := Lib.hid (law11_made (t := 0) c 0 (HW.out.ext X0.out) hg h0 (by decide) hi (by simp) (H.out.ext X0.out))
    obtain ⟨t, ht⟩ : ∃ t, 0 = t := ⟨0, rfl⟩
    rw [ht] at CM hi
    clear hg h0 ho ht
    go_enter Tryz.func5, Tryz.ntmps5
    go_wp2_with fail
    clear hW0 hz b0 b1 b2 b3 b4 b5 bz
    refine CM.out.mono ?_
    rintro e w1 ⟨bb, mm, gw, gb, pb, gp, d0, cap0, lb, lc, fb, fc, mb, mc, rfl, hb, hd, x1, hg⟩
    have HB := Lib.hid hb; have HD := Lib.hid hd; have X1 := Lib.hid x1; have HG := Lib.hid hg
    clear CM hb hd x1 hg
    go_upto_region 5 with fail
    obtain ⟨zq, hzq⟩ : ∃ zq, w1.heap.size = zq := ⟨_, rfl⟩
    obtain ⟨W1, hW1⟩ : ∃ W, w1.alloc (.cells #[.slice (some ⟨d0, 0, none⟩) c.ts.length cap0, .int .i64 t, .slice (some ⟨lb, 0, none⟩) (nS c t) lc, .slice (some ⟨fb, 0, none⟩) (nG c t) fc, .slice (some ⟨mb, 0, none⟩) (nG c t) mc, .int .i64 (wordsOf c t), .slice ca0 c.cl.length cc0] 41) = W := ⟨_, rfl⟩
    have HP : Hid (PlayB W0 bb mm gw gb pb gp zq d0 cap0 lb lc fb fc mb mc cc0 ca0 c t (List.replicate (totalN c) 0) W1) := Lib.hid (by
      rw [← hW1]
      exact PlayB.start HB.out HD.out X1.out HG.out hzq)
    rw [hW1, hzq]
    clear HB HD X1 HG hW1 hzq
    go_loopw [10] (fun kv wr => ∃ (k d cap : Nat) (ws : List Int), k ≤ l.length ∧ k ≤ 200 ∧ kv = .int .i64 k ∧ Hid (PlayB W0 bb mm gw gb pb gp zq d cap lb lc fb fc mb mc cc0 ca0 c t ws wr)) (fun kv _ => 200 - (intOf kv).toNat)
    case atStart => exact ⟨0, d0, cap0, _, Nat.zero_le _, Nat.zero_le _, rfl, HP⟩
    case round =>
      clear HP
      obtain ⟨k, d, cap, ws, hk, hk200, rfl, PR⟩ := hrel
      rcases (show (k < l.length ∧ k < 200) ∨ (k < l.length ∧ k = 200) ∨ k = l.length by omega) with ⟨hlt, h200⟩ | ⟨hlt, rfl⟩ | rfl
      · as_aux_lemma =>
        obtain ⟨ab, ao, rfl, cx⟩ := HL.out k hlt
        have la0 : ab < w.heap.size := cell_lt cx
        have XW := Lib.hid (X0.out.trans PR.out.ext)
        replace cx := XW.out.cell cx
        have xr := HX.out k
        generalize nth l k = x at *
        have na : ¬ isB gw ab := by have h1 := PR.out.lg; have := X0.out.size; unfold isB; omega
        have nq : ¬ isB gw zq := PR.out.ng
        have az : ab ≠ zq := by have := PR.out.lz; have := X0.out.size; omega
        have hk0 : (0 : Int) ≤ (k : Int) := Int.natCast_nonneg _
        have hk1 : (k : Int) < (l.length : Int) := by omega
        go_wp2_with fail
        obtain ⟨ws2, kk, hs⟩ : ∃ ws2 kk, storeR c ws 0 (k : Int) x = (ws2, kk) := ⟨_, _, rfl⟩
        have SR := Lib.hid hs
        clear hs
        refine (mem_Store PR.out.body.mem (by unfold is64; omega) SR.out).mono ?_
        rintro e w6 ⟨rfl, hc6, hm6⟩
        have WO := Lib.hid (PR.out.body.ok.store xr SR.out)
        have HB6 := Lib.hid (PR.out.body.turn hc6 hm6 WO.out)
        have HD6 := Lib.hid (PR.out.doc.chg hc6 (fun k e => .inl e))
        have HC6 := Lib.hid hc6
        have q0 := hc6.cell (p := ⟨zq, 0, none⟩) nq (PR.out.box.c 0 _ rfl)
        have cx6 := hc6.cell (p := ⟨ab, ao + k, none⟩) na cx
        clear hc6 hm6 cx
        go_wp2_with fail
        go_region_with ((go_at_call 21; refine (ref07_Store (HD6.out.doc.ext (Ext.refl _).drew) (fun k q => ?_) SR.out).mono ?_; (have l1 := HB6.out.lt.2; have l2 := (PR.out.box.chg HC6.out nq).lt; rcases q with q | q <;> (subst q; simpa using by assumption)); rintro e w7 ⟨d7, cap7, rfl, hd7, x7⟩; have zb := ((PR.out.box.chg HC6.out nq).ext (Ext.refl _).drew).ext x7; have z0 := zb.c 0 _ rfl; have y0 := zb.f 0; clear zb))
        all_goals
          have x7' : Ext w6 w7 := (Ext.refl _).drew.trans x7
          have zb := ((PR.out.box.chg HC6.out nq).ext x7').set (i := 0) (by simp) (.slice (some ⟨d7, 0, none⟩) c.ts.length cap7)
          have ch := (Chg.refl (fun k => k = zq) w7).setCell (p := ⟨zq, 0, none⟩) (.inl rfl) (.slice (some ⟨d7, 0, none⟩) c.ts.length cap7)
          have PS := Lib.hid (PR.out.step (d' := d7) (cap' := cap7) (HB6.out.ext x7') ⟨hd7, HD6.out.plan.ext x7', HD6.out.np, HD6.out.nc, WO.out⟩ (HC6.out.trans (Chg.of_ext x7')) ch zb)
          clear zb ch x7' x7 hd7 z0 y0 q0 cx6
          go_wp2_with fail
          go_roundw
          case rel => exact ⟨k + 1, d7, cap7, ws2, by omega, by omega, by go_num, PS⟩
          case measure => simp [intOf] <;> omega
      all_goals as_aux_lemma =>
        go_upto_region 10 with fail
        clear HX
        go_loopw [11] (fun kv wr => ∃ k : Nat, k ≤ nS c t ∧ k ≤ 60 ∧ kv = .int .i64 k ∧ Hid (PlayB W0 bb mm gw gb pb gp zq d cap lb lc fb fc mb mc cc0 ca0 c t ws wr)) (fun kv _ => 60 - (intOf kv).toNat)
        case atStart => exact ⟨0, Nat.zero_le _, Nat.zero_le _, rfl, PR⟩
        case round =>
          clear PR
          obtain ⟨k, hk, hk60, rfl, PR⟩ := hrel
          have q0 := PR.out.box.c 0 _ rfl; have q1 := PR.out.box.c 1 _ rfl; have q2 := PR.out.box.c 2 _ rfl; have q3 := PR.out.box.c 3 _ rfl; have q4 := PR.out.box.c 4 _ rfl; have q5 := PR.out.box.c 5 _ rfl; have q6 := PR.out.box.c 6 _ rfl
          have lz : zq < wr.heap.size := PR.out.box.lt
          rcases (show (k < nS c t ∧ k < 60) ∨ (k < nS c t ∧ k = 60) ∨ k = nS c t by omega) with ⟨hlt, h60⟩ | ⟨hlt, rfl⟩ | hn
          · as_aux_lemma =>
            have hk1 : (k : Int) < (nS c t : Int) := by omega
            have CT := Lib.hid (law11_told (lc := lc) (fc := fc) (mc := mc) (cc := cc0) (cap := cap) (s := (k : Int)) PR.out.body PR.out.doc)
            go_wp2_with fail
            refine CT.out.mono ?_
            rintro e w6 ⟨rfl, x6⟩
            have PS := Lib.hid (PR.out.go x6)
            clear CT x6 q0 q1 q2 q3 q4 q5 q6
            go_wp2_with fail
            go_roundw
            case rel => exact ⟨k + 1, by omega, by omega, by go_num, PS⟩
            case measure => simp [intOf] <;> omega
          all_goals as_aux_lemma =>
            go_upto_region 14 with fail
            (first | clear hn | skip)
            have ybx := Y0.out.ext PR.out.ext
            have y0 := ybx.c 0 _ rfl; have y1 := ybx.c 1 _ rfl; have y2 := ybx.c 2 _ rfl; have y3 := ybx.c 3 _ rfl; have y4 := ybx.c 4 _ rfl; have y5 := ybx.c 5 _ rfl; have y6 := ybx.c 6 _ rfl; have y7 := ybx.c 7 _ rfl
            have CD := Lib.hid (law11_does_in (y := y) PR.out (Ext.refl _) HY.out)
            have ly := ybx.lt
            clear ybx
            go_wp2_with fail
            refine CD.out.mono ?_
            rintro e w6 ⟨d6, cap6, rfl, hb6, hd6, hc6⟩
            clear CD y0 y1 y2 y3 y4 y5 y6 y7 q0 q1 q2 q3 q4 q5 q6 ly
            have HB6 := Lib.hid hb6; have HD6 := Lib.hid hd6; have HX6 := Lib.hid (hc6.over PR.out.ext fun k e => by unfold isB at e; subst e; exact PR.out.lg)
            clear hb6 hd6 hc6
            go_upto_region 15 with fail
            obtain ⟨yb, hyb⟩ : ∃ yb, w6.heap.size = yb := ⟨_, rfl⟩
            obtain ⟨W7, hW7⟩ : ∃ W, w6.alloc (.cells #[.slice (some ⟨d6, 0, none⟩) c.ts.length cap6, .int .i64 t, .slice (some ⟨lb, 0, none⟩) (nS c t) lc, .slice (some ⟨fb, 0, none⟩) (nG c t) fc, .slice (some ⟨mb, 0, none⟩) (nG c t) mc, .int .i64 (wordsOf c t), .slice ca0 c.cl.length cc0] 41) = W := ⟨_, rfl⟩
            have x7 : Ext w6 W7 := by rw [← hW7]; exact (Ext.refl _).alloc _
            have bx : BoxG W7 yb [.slice (some ⟨d6, 0, none⟩) c.ts.length cap6, .int .i64 t, .slice (some ⟨lb, 0, none⟩) (nS c t) lc, .slice (some ⟨fb, 0, none⟩) (nG c t) fc, .slice (some ⟨mb, 0, none⟩) (nG c t) mc, .int .i64 (wordsOf c t), .slice ca0 c.cl.length cc0] := by rw [← hW7]; exact BoxG.new w6 _ _ hyb
            have p0 := bx.c 0 _ rfl
            have HB7 := Lib.hid (HB6.out.ext x7); have HD7 := Lib.hid (HD6.out.ext x7); have HX7 := Lib.hid (HX6.out.trans x7)
            obtain ⟨ws6, hws6⟩ : ∃ ws6, actB c t ws y.what y.slot y.i y.to y.w ⟨y.hc, y.hr, y.hw⟩ = ws6 := ⟨_, rfl⟩
            rw [hws6] at HB7 HD7
            rw [hW7, hyb]
            clear HB6 HD6 HX6 bx x7 hW7 hyb hws6
            have WM := Lib.hid (show (ws6).length ≤ maxLen by have := HB7.out.mem.ok.total_le; rw [HB7.out.mem.len]; unfold maxLen; omega)
            have XX : Ext W7 W7 := Ext.refl _
            have XD : Ext W7 W7.drew := XX.drew
            go_region_held3 (fun w' => w'.cell? ⟨yb, 0, none⟩ = some (.slice (some ⟨d6, 0, none⟩) c.ts.length cap6))
              ((first | go_keep | (exact hE.cell (by assumption))))
              ((first
                | (go_at_call 18; refine (mem_All (HB7.out.mem.ext ?_)).mono ?_; assumption; rintro e w4 ⟨a4, c4, rfl, hn4, hE⟩; have hE4 := hE; have hX4 : Ext W7 w4 := Ext.trans (by assumption) hE)
                | (go_at_call 19; refine (ref07_All (HD7.out.doc.ext ?_)).mono ?_; assumption; rintro e w5 ⟨a5, c5, rfl, hn5, hE⟩; have hE5 := hE; have hX5 : Ext W7 w5 := Ext.trans (by assumption) hE)
                | (go_at_call 17; refine (ref03_Same _ _ true (by simp) ?_ ?_ WM.out WM.out).mono ?_; (first | exact hn4.row | exact hn4.row.ext hE5); (first | exact hn5.row | exact hn5.row.ext hE4); rintro e w6 ⟨rfl, hE⟩; have hX6 : Ext W7 w6 := Ext.trans (by assumption) hE)
                | (go_at_call 9; refine (law11_awake _ (HB7.out.wid.ext ?_)).mono ?_; assumption; rintro e w7 ⟨rfl, hE⟩; have hX7 : Ext W7 w7 := Ext.trans (by assumption) hE)))
            all_goals
              go_wp2_with fail
              go_ret
              exact ⟨rfl, X0.out.trans (HX7.out.trans hX7)⟩
  · have CM := Lib.hid (law11_made_no c 0 (by
      by_cases h1 : bigB c = true
      · exact .inl h1
      · exact .inr fun h2 => hg ⟨by simpa using h1, h2⟩) (H.out.ext X0.out))
    clear hg
    go_enter Tryz.func5, Tryz.ntmps5
    go_wp2_with fail
    clear hW0 hz b0 b1 b2 b3 b4 b5 bz
    refine CM.out.mono ?_
    rintro e w1 ⟨rfl, x1⟩
    have X1 := Lib.hid x1
    clear x1 CM
    go_wp2_with fail
    refine (law11_awake _ (HW.out.ext (X0.out.trans (X1.out.trans ((Ext.refl _).alloc _))))).mono ?_
    rintro e w2 ⟨rfl, x2⟩
    go_wp2_with fail
    go_ret
    exact ⟨rfl, X0.out.trans (X1.out.trans (((Ext.refl _).alloc _).trans x2))⟩

end Go.Proofs.YtnbngcagnchkdaaGreatDoor
