/-
  commonagelaw14: acts; what PinsCount's loops keep.
-/
import Derived.Test.YtfhnjecnamgpkaaDoorLaw14a
import Derived.Test.YtfhnjecnamgpkaaDoorRef14b
namespace Go.Proofs.YtfhnjecnamgpkaaDoor
open Go.RowKit

structure PAct where
  slot : Int
  less : Bool
  times : Int
instance : Inhabited PAct := ⟨⟨0, false, 0⟩⟩
def pActnth (l : List PAct) (i : Nat) : PAct := l.getD i default
def PAct.Ok (t : PAct) : Prop := (-9223372036854775808 ≤ t.slot ∧ t.slot ≤ 9223372036854775807) ∧ (0 ≤ t.times ∧ t.times ≤ 255)
def PActAt (w : World) (a : Option Addr) (l : List PAct) : Prop := ∀ i, i < l.length → (pActnth l i).Ok ∧ ∃ b o, a = some ⟨b, o, none⟩ ∧ w.cell? ⟨b, o + i * 3, none⟩ = some (.int .i64 (pActnth l i).slot) ∧ w.cell? ⟨b, o + i * 3 + 1, none⟩ = some (.bool (pActnth l i).less) ∧ w.cell? ⟨b, o + i * 3 + 2, none⟩ = some (.int .u8 (pActnth l i).times)
theorem PActAt.ext {w w' : World} {a : Option Addr} {l : List PAct} (h : PActAt w a l) (hx : Ext w w') : PActAt w' a l := fun i hi => by
  obtain ⟨k, b, o, e, c0, c1, c2⟩ := h i hi
  exact ⟨k, b, o, e, hx.cell c0, hx.cell c1, hx.cell c2⟩

theorem make_ints (n : Nat) (h : n ≤ 65536) : ∀ W : World, (Instr.makeSlice 63 (.int .i64 (n : Int)) (.int .i64 (n : Int))).run Tryd.prog W = .ok (.slice (some ⟨W.heap.size, 0, none⟩) n n) (W.alloc (.cells (madeCells #[.int .i64 0] n) 3)) := by
  intro W
  exact run_make_row' 63 3 (.int .i64 0) 8 Tryd.underlying63 info_i64 rfl .i64 .i64 n (by omega) (by omega) W
theorem made_ints {w : World} {n : Nat} {t : TypeId} : At .i64 (w.alloc (.cells (madeCells #[.int .i64 0] n) t)) (some ⟨w.heap.size, 0, none⟩) (List.replicate n 0) := by
  refine At.mk fun i hi => ?_
  rw [List.length_replicate] at hi
  rw [Nat.zero_add, show nth (List.replicate n (0 : Int)) i = 0 by simp [nth, List.getD, hi], cell_newN, made_at hi]

theorem PinAt.chg {P : Nat → Prop} {w w' : World} {b rb rg g : Nat} {ms : List Int} (h : PinAt w b rb rg g ms) (hx : Chg P w w') (hb : ¬ P b) (hrb : ¬ P rb) (hg : 0 < ms.length → ¬ P rg ∧ ¬ P g) : PinAt w' b rb rg g ms := by
  obtain ⟨a, cap, h1, h2, h3, h4, h5⟩ := h.ex
  refine ⟨hx.cell hb h.head, ⟨a, cap, hx.cell hb h1, h2.chg hx fun x o e hp => ?_, h3, h4, fun hp => ⟨(h5 hp).1, fun o => ?_⟩⟩, h.row.chg hx hrb fun hp => (hg (by rw [pbs_len] at hp; exact hp)).1, h.small, h.apart, h.two⟩
  · rw [(h5 hp).1] at e; cases e; exact (hg hp).2
  · obtain ⟨x, o', e, hc⟩ := h2 0 hp
    rw [(h5 hp).1] at e; cases e
    have hl : g < w.heap.size := cell_lt hc
    rw [hx.frozen (p := ⟨g, o, none⟩) hl (hg hp).2]; exact (h5 hp).2 o
theorem PinAt.glt {w : World} {b rb rg g : Nat} {ms : List Int} (h : PinAt w b rb rg g ms) (hp : 0 < ms.length) : b < w.heap.size ∧ rb < w.heap.size ∧ rg < w.heap.size ∧ g < w.heap.size := by
  refine ⟨cell_lt h.head, h.row.lt, h.row.glt (by rw [pbs_len]; exact hp), ?_⟩
  obtain ⟨a, cap, _, hA, _, _, h5⟩ := h.ex
  obtain ⟨x, o, e, hc⟩ := hA 0 hp
  rw [(h5 hp).1] at e; cases e; exact cell_lt hc

/-- Pins and a row of numbers beside them (its block is gm), in a world that has grown from w. -/
structure PC (w : World) (b rb rg g gm N : Nat) (ms ns : List Int) (wr : World) : Prop where
  pin : PinAt wr b rb rg g ms
  row : At .i64 wr (some ⟨gm, 0, none⟩) ns
  fz : ∀ o, wr.frozen? ⟨gm, o, none⟩ = false
  ext : Ext w wr
  len : ms.length = N
  len2 : ns.length = N
  lo : w.heap.size ≤ rg ∧ w.heap.size ≤ g
  sep : b < gm ∧ rb < gm ∧ rg < gm ∧ g < gm
  hi : gm < wr.heap.size
  pos : 0 < N
theorem PC.go {w wr w' : World} {b rb rg g gm N : Nat} {ms ns : List Int} (h : PC w b rb rg g gm N ms ns wr) (hx : Ext wr w') : PC w b rb rg g gm N ms ns w' :=
  ⟨h.pin.ext hx, h.row.ext hx, fun o => by rw [hx.frozen (p := ⟨gm, o, none⟩) h.hi]; exact h.fz o, h.ext.trans hx, h.len, h.len2, h.lo, h.sep, Nat.lt_of_lt_of_le h.hi hx.size, h.pos⟩
theorem PC.turned {w wr w' : World} {b rb rg g gm N : Nat} {ms ms' ns : List Int} (h : PC w b rb rg g gm N ms ns wr) (hp : PinAt w' b rb rg g ms') (hl : ms'.length = N) (hx : Chg (ptch rg g ms) wr w') : PC w b rb rg g gm N ms' ns w' := by
  have hs := h.sep; have hlo := h.lo
  have ng : ¬ ptch rg g ms gm := by rintro ⟨_, e | e⟩ <;> omega
  refine ⟨hp, h.row.chg hx fun x o e _ => by cases e; exact ng, fun o => by rw [hx.frozen (p := ⟨gm, o, none⟩) h.hi ng]; exact h.fz o, hx.over h.ext fun k ⟨_, e⟩ => by omega, hl, h.len2, h.lo, h.sep, Nat.lt_of_lt_of_le h.hi hx.size, h.pos⟩
theorem PC.stored {w wr : World} {b rb rg g gm N n : Nat} {ms ns : List Int} (h : PC w b rb rg g gm N ms ns wr) (hn : n < N) (hw : w.heap.size ≤ gm) (y : Int) : PC w b rb rg g gm N ms (ns.set n y) (wr.setCell ⟨gm, n, none⟩ (.int .i64 y)) := by
  have hs := h.sep
  have c1 : Chg (fun k => k = gm) wr (wr.setCell ⟨gm, n, none⟩ (.int .i64 y)) := (Chg.refl (fun k => k = gm) wr).setCell (p := ⟨gm, n, none⟩) (.inl rfl) _
  refine ⟨h.pin.chg c1 (fun e => by omega) (fun e => by omega) fun _ => ⟨fun e => by omega, fun e => by omega⟩, h.row.set (by have := h.len2; omega) y, fun o => by simpa using h.fz o, c1.over h.ext fun k e => by omega, h.len, by rw [List.length_set]; exact h.len2, h.lo, h.sep, by simpa using h.hi, h.pos⟩

/-- An act in a box of its own. -/
def XBox (w : World) (bx : Nat) (slot : Int) (less : Bool) (times : Int) : Prop := w.cell? ⟨bx, 0, none⟩ = some (.int .i64 slot) ∧ w.cell? ⟨bx, 1, none⟩ = some (.bool less) ∧ w.cell? ⟨bx, 2, none⟩ = some (.int .u8 times)
theorem XBox.chg {P : Nat → Prop} {w w' : World} {bx : Nat} {slot : Int} {less : Bool} {times : Int} (h : XBox w bx slot less times) (hx : Chg P w w') (hp : ¬ P bx) : XBox w' bx slot less times := ⟨hx.cell hp h.1, hx.cell hp h.2.1, hx.cell hp h.2.2⟩

theorem pturn_len {less : Bool} {ms ms' : List Int} {i q : Int} (h : pturn less ms i = (ms', q)) : ms'.length = ms.length := by
  unfold pturn at h
  split at h
  · split at h <;> split at h <;> (cases h; simp)
  · cases h; rfl
theorem pins_LenN {b rb rg g n : Nat} (ms : List Int) {w : World} (hn : ms.length = n) (h : PinAt w b rb rg g ms) : Calls Tryd.prog 32 #[.pointer (some ⟨b, 0, none⟩)] w fun e w' => e = .returned (.int .i64 n) ∧ w = w' := by
  subst hn; exact pins_Len ms h
theorem ref14_AllN {a : Option Addr} {cap n : Nat} (ms : List Int) {w : World} (hn : ms.length = n) (h : At .i64 w a ms) (hl : n ≤ 65536) :
    Calls Tryd.prog 38 #[.slice a n cap] w (ClonedInts .i64 (pall ms n) w) := by
  subst hn; exact ref14_All ms h hl

end Go.Proofs.YtfhnjecnamgpkaaDoor
