/-
  Merged texts: ArenaF, ArenaG.
-/
import Derived.Test.YtlhajoamebfniaaDoorG11
import Derived.Test.YtlhajoamebfniaaDoorG10
set_option linter.unusedVariables false
set_option linter.unusedSimpArgs false
/-! arena: what GiveAll leaves: plain lemmas; each's contract as a range wants it. -/
namespace Go.Proofs.YtlhajoamebfniaaDoor
open Go.RowKit Go.Shelf
attribute [local go_sem] Oper.semAt_some

theorem Chg.past {P : Nat → Prop} {v A B : World} {row : Option Nat} (h : Chg P v A) (hg : A.grownBy B row) (hr : ∀ r, row = some r → v.heap.size ≤ r ∧ ∃ o : Obj, A.heap[r]? = some o ∧ o.isCells = false) : Chg P v B :=
  ⟨hg.os.trans h.os, hg.tape.trans h.tape, hg.output.trans h.output, Nat.le_trans h.size hg.size, fun k hk hp => (hg.block k (Nat.lt_of_lt_of_le hk h.size) (fun e => by have := (hr k e.symm).1; omega)).trans (h.block k hk hp)⟩
theorem Chg.grown {N : Nat} {A B : World} {row : Option Nat} (hg : A.grownBy B row) (hr : ∀ r, row = some r → N ≤ r ∧ ∃ o : Obj, A.heap[r]? = some o ∧ o.isCells = false) : Chg (fun k => N ≤ k) A B :=
  ⟨hg.os, hg.tape, hg.output, hg.size, fun k hk hp => hg.block k hk (fun e => hp (hr k e.symm).1)⟩
theorem Chg.putObj {P : Nat → Prop} {a W : World} (h : Chg P a W) {l : Nat} (hp : P l) (o : Obj) : Chg P a (W.putObj l o) :=
  h.trans ⟨(grownBy_putObj' W l o).os, (grownBy_putObj' W l o).tape, (grownBy_putObj' W l o).output, (grownBy_putObj' W l o).size, fun k hk hn => (grownBy_putObj' W l o).block k hk (by intro e; cases e; exact hn hp)⟩
theorem Chg.new {P : Nat → Prop} {v A B : World} (h : Chg P v A) (k : Chg (fun k => v.heap.size ≤ k) A B) : Chg P v B :=
  ⟨k.os.trans h.os, k.tape.trans h.tape, k.output.trans h.output, Nat.le_trans h.size k.size, fun i hi hp => (k.block i (Nat.lt_of_lt_of_le hi h.size) (by omega)).trans (h.block i hi hp)⟩
/-- Worlds that differ in cells alone. -/
theorem Chg.keeps {P : Nat → Prop} {A B : World} (h : Chg P A B) (hc : ∀ k, P k → ∃ o : Obj, A.heap[k]? = some o ∧ o.isCells = true) : KeepsOthers A B :=
  ⟨h.size, fun k o hk ho => (h.block k (Array.getElem?_eq_some_iff.1 hk).1 (fun hp => by
    obtain ⟨o', h1, h2⟩ := hc k hp
    rw [hk] at h1; cases h1; rw [ho] at h2; cases h2)).trans hk⟩

variable {w w' : World} {b pb gp rb rg lb lg : Nat} {c : Conf} {t : Nat} {bs bs' r : List Bool} {u : Int}
theorem ArenaU.tab (h : ArenaU w b pb gp rb rg c t bs u) (hT : Tab w) : ¬ arB b rg 0 := by
  have t0 := hT 0 (by decide)
  rintro (e | e)
  · have c0 := h.c0
    rw [← e] at c0
    rw [c0] at t0; cases t0
  · have c0 := h.row.word h.pos 0 (wlen_pos h.pos)
    rw [← e] at c0
    rw [c0] at t0; cases t0
theorem ArenaU.cells (h : ArenaU w b pb gp rb rg c t bs u) : ∀ k, arB b rg k → ∃ o : Obj, w.heap[k]? = some o ∧ o.isCells = true := by
  rintro k (rfl | rfl)
  · exact cells_of_cell h.c0
  · exact cells_of_cell (h.row.word h.pos 0 (wlen_pos h.pos))
theorem ArenaU.apart (h : ArenaU w b pb gp rb rg c t bs u) (hl : RowAt w lb lg r) (h0 : 0 < r.length) (hn : lg ≠ rg) : ¬ arB b rg lb ∧ ¬ arB b rg lg := by
  obtain ⟨a, cap, l0, _⟩ := hl.ex
  constructor
  · rintro (e | e)
    · rw [e, h.c0] at l0; cases l0
    · have := h.row.word h.pos 0 (wlen_pos h.pos)
      rw [e, this] at l0; cases l0
  · rintro (e | e)
    · have := hl.word h0 0 (wlen_pos h0)
      rw [e, h.c0] at this; cases this
    · exact hn e

theorem onesTo_snoc {pre : List (OneBit r)} {x : OneBit r} : ∀ {j : Nat}, onesTo r j = pre ++ [x] → pre = onesTo r x.1 ∧ ∀ y ∈ pre, y.1 ≠ x.1
  | 0, h => by simp [onesTo] at h
  | j + 1, h => by
    rw [onesTo] at h
    by_cases hj : j < r.length ∧ bnth r j = true
    · rw [dif_pos hj] at h
      obtain ⟨e1, e2⟩ := List.append_inj' h rfl
      injection e2 with e2 _
      subst e2
      refine ⟨e1.symm, fun y hy => ?_⟩
      rw [← e1] at hy
      have := onesTo_mem.1 hy
      show y.1 ≠ j
      omega
    · rw [dif_neg hj, List.append_nil] at h
      exact onesTo_snoc h
theorem onesTo_any (i : Nat) : (onesTo r r.length).any (fun y => y.1 == i) = bnth r i := by
  cases hb : bnth r i
  · rw [List.any_eq_false]
    intro y _ e
    have e : y.1 = i := by simpa using e
    have := y.2.2
    rw [e, hb] at this; cases this
  · rw [List.any_eq_true]
    have hi : i < r.length := by
      rcases Nat.lt_or_ge i r.length with g | g
      · exact g
      · rw [bnth_out g] at hb; cases hb
    exact ⟨⟨i, hi, hb⟩, onesTo_mem.2 hi, by simp⟩

/-- What GiveAll's second loop keeps. -/
def GiveI (w3 : World) (b pb gp rb rg : Nat) (c : Conf) (t : Nat) (bs r : List Bool) (pre : List (OneBit r)) (W : World) : Prop :=
  Chg (arB b rg) w3 W ∧ ∃ bs' u, ArenaU W b pb gp rb rg c t bs' u ∧ -64 * (pre.length : Int) ≤ u ∧ u ≤ 1048576 ∧ bs'.length = bs.length ∧ (∀ i, bnth bs' i = (bnth bs i && !(pre.any fun y => y.1 == i))) ∧ ((∃ j, pre = onesTo r j) → u = usedOf c t bs')
theorem GiveI.own {w3 : World} {l : List (OneBit r)} {A B : World} {row : Option Nat} (h : GiveI w3 b pb gp rb rg c t bs r l A) (l1 : b < w3.heap.size ∧ pb < w3.heap.size ∧ gp < w3.heap.size ∧ rb < w3.heap.size ∧ rg < w3.heap.size) (hg : A.grownBy B row)
    (hr : ∀ r, row = some r → w3.heap.size ≤ r ∧ ∃ o : Obj, A.heap[r]? = some o ∧ o.isCells = false) : GiveI w3 b pb gp rb rg c t bs r l B := by
  obtain ⟨h1, bs', u, h2, h3⟩ := h
  have hc := Chg.grown hg hr
  exact ⟨h1.past hg hr, bs', u, h2.chg hc (by omega) ⟨by omega, by omega⟩ ⟨by omega, by omega⟩, h3⟩
theorem GiveI.start (h : ArenaAt w b pb gp rb rg c t bs) : GiveI w b pb gp rb rg c t bs r [] w := by
  have bd := usedOf_bd h.plan.ok h.plan.ti bs
  exact ⟨Chg.refl _ _, bs, _, h, by simpa using bd.1, bd.2, rfl, fun i => by simp, fun _ => rfl⟩
theorem GiveI.round {w3 W : World} {pre : List (OneBit r)} {x : OneBit r} (h : GiveI w3 b pb gp rb rg c t bs r pre W) (hl : pre.length < r.length) (hrl : r.length = nS c t) (hs : ∀ i, bnth r i = true → bnth bs i = true) :
    Calls Tryd.prog 72 #[.pointer (some ⟨b, 0, none⟩), .int .i64 x.1] W fun e W' => e = .returned (.tuple #[]) ∧ GiveI w3 b pb gp rb rg c t bs r (pre ++ [x]) W' ∧ KeepsOthers W W' ∧ Chg (arB b rg) W W' := by
  obtain ⟨h1, bs', u, h2, h3, h4, h5, h6, h7⟩ := h
  have hx : x.1 < bs'.length := by have := x.2.1; rw [h2.len]; omega
  have ln := h2.plan.ok.nS_le h2.plan.ti
  have sz := szOf_bd h2.plan.ok h2.plan.ti (s := x.1) (by rw [← h2.len]; exact hx)
  have kc := h2.cells
  refine (arena_giveU h2 hx ⟨by omega, h4⟩).mono ?_
  rintro e W' ⟨rfl, q1, q2⟩
  refine ⟨rfl, ⟨h1.trans q2, _, _, q1, by rw [List.length_append, List.length_singleton]; omega, by omega, by rw [List.length_set]; exact h5, fun i => ?_, fun hj => ?_⟩, q2.keeps kc, q2⟩
  · rw [bnth_set hx, List.any_append, h6]
    by_cases e : i = x.1
    · subst e; simp
    · rw [if_neg e]
      have e' : (x.1 == i) = false := by simpa using Ne.symm e
      simp [e']
  · obtain ⟨j, hj⟩ := hj
    obtain ⟨e1, e2⟩ := onesTo_snoc hj.symm
    have hb : bnth bs' x.1 = true := by
      rw [h6, hs _ x.2.2]
      simp only [Bool.true_and, Bool.not_eq_true']
      rw [List.any_eq_false]
      intro y hy
      simpa using e2 y hy
    rw [used_give h2.len hx hb, h7 ⟨_, e1⟩]
theorem GiveI.done {w3 W : World} (h : GiveI w3 b pb gp rb rg c t bs r (onesTo r r.length) W) : ArenaAt W b pb gp rb rg c t (bless bs r) := by
  obtain ⟨h1, bs', u, h2, h3, h4, h5, h6, h7⟩ := h
  have e : bs' = bless bs r := bext (by rw [bless_len]; exact h5) fun i _ => by rw [h6, onesTo_any, bless_nth]
  rw [← e]
  have := h7 ⟨_, rfl⟩
  subst this
  exact h2

theorem each_stops (n : Nat) (hn : 1 ≤ n) (Bl lb lg N : Nat) (Q : Nat → Prop) (hN : r.length = N) (q0 : ¬ Q Bl) (q1 : ¬ Q lb) (q2 : ¬ Q lg) (q3 : ¬ Q 0) (w : World) (cl : w.cell? ⟨Bl, 0, none⟩ = some (.pointer (some ⟨lb, 0, none⟩))) (hR : RowAt w lb lg r) (hT : Tab w) :
    SeqStopsK Fence.wide n Tryd.prog 95 #[.pointer (some ⟨Bl, 0, none⟩)] (encB (r := r)) (Chg Q) (fun ys => ys = onesTo r r.length) (fun pre => ∃ j, j ≤ r.length ∧ pre = onesTo r j) N w := fun l J Jx W hW hJ _ hY h0 => by
  have hx : Ext w W := hW
  subst hN
  exact each1_in n hn l Bl lb lg Q q0 q1 q2 q3 J Jx (fun pre V V' h hz => hJ pre V V' none h ⟨Below.os hz, Below.tape hz, Below.output hz, Below.size hz, fun k hk _ => Below.block hz k hk⟩ (fun r e => by cases e)) hY W (hx.cell cl) (hR.ext hx) (fun j hj => hx.cell (hT j hj)) h0

set_option maxHeartbeats 1000000 in
theorem arena_each (pp : Option Addr) {w : World} :
    Calls Tryd.prog 73 #[.pointer pp] w fun e w' => e = .returned (.func (.func 95) #[] #[.pointer (some ⟨w.heap.size, 0, none⟩)]) ∧
      w' = w.alloc (.cells #[.pointer pp] 64) := by
  go_enter Tryd.func73, Tryd.ntmps73
  go_wp2_with fail
  go_ret
  exact ⟨rfl, rfl⟩
end Go.Proofs.YtlhajoamebfniaaDoor

/-! arena: GiveAll. -/
namespace Go.Proofs.YtlhajoamebfniaaDoor
open Go.RowKit Go.Shelf
attribute [local go_sem] Oper.semAt_some
variable {w w' : World} {b pb gp rb rg lb lg : Nat} {c : Conf} {t : Nat} {bs bs' r : List Bool} {u : Int}

theorem two_new (w : World) (v0 v1 : Value) (t0 t1 : TypeId) :
    ((w.alloc (.cells #[v0] t0)).alloc (.cells #[v1] t1)).cell? ⟨w.heap.size, 0, none⟩ = some v0 ∧
    (((w.alloc (.cells #[v0] t0)).alloc (.cells #[v1] t1)).cell? ⟨w.heap.size + 1, 0, none⟩ = some v1 ∧ ((w.alloc (.cells #[v0] t0)).alloc (.cells #[v1] t1)).frozen? ⟨w.heap.size + 1, 0, none⟩ = false) := by
  have c1 := cell_newN (w.alloc (.cells #[v0] t0)) #[v1] t1 0
  have f1 : ((w.alloc (.cells #[v0] t0)).alloc (.cells #[v1] t1)).frozen? ⟨(w.alloc (.cells #[v0] t0)).heap.size, 0, none⟩ = false := World.frozen?_alloc_at _ _ _ _ rfl
  simp only [World.size_alloc] at c1 f1
  exact ⟨((Ext.refl _).alloc _).cell (cell_newN w _ _ 0), c1, f1⟩

set_option maxRecDepth 100000 in
set_option maxHeartbeats 16000000 in
theorem arena_GiveAll {q : Int} (h : ArenaAt w b pb gp rb rg c t bs) (hT : Tab w) (hl : RowAt w lb lg r) (hn : lg ≠ rg) (hrl : r.length = bs.length) (hr : giveAllR bs r = (bs', q)) :
    Calls Tryd.prog 35 #[.pointer (some ⟨b, 0, none⟩), .pointer (some ⟨lb, 0, none⟩)] w fun e w' => e = .returned (.int .i64 q) ∧ ArenaAt w' b pb gp rb rg c t bs' ∧ Chg (arB b rg) w w' := by
  have H := Lib.hid h; have HR := Lib.hid hr
  have HT := Lib.hid hT; have HL := Lib.hid hl
  have RL := Lib.hid hrl
  have AP := Lib.hid (h.apart hl (by rw [hrl]; exact h.pos) hn)
  have TB := Lib.hid (h.tab hT)
  have LT := Lib.hid h.lt
  have l0 := hl.lt
  have l1 := hl.glt (by rw [hrl]; exact h.pos)
  have hmost := hl.most
  obtain ⟨N, hN⟩ : ∃ N, bs.length = N := ⟨_, rfl⟩
  have LN1 : Hid (∀ W, Ext w W → Calls Tryd.prog 42 #[.pointer (some ⟨lb, 0, none⟩)] W fun e w' => e = .returned (.int .i64 N) ∧ W = w') := Lib.hid fun W x => by
    have := row_Len r (hl.ext x); rw [hrl, hN] at this; exact this
  have LN2 : Hid (∀ W, Ext w W → Calls Tryd.prog 42 #[.pointer (some ⟨rb, 0, none⟩)] W fun e w' => e = .returned (.int .i64 N) ∧ W = w') := Lib.hid fun W x => by
    have := row_Len bs (h.row.ext x); rw [hN] at this; exact this
  have CPY := Lib.hid (fun W (x : Ext w W) => row_Copy r (hl.ext x))
  have HN := Lib.hid hN
  obtain ⟨z, hz⟩ : ∃ z, w.heap.size = z := ⟨_, rfl⟩
  obtain ⟨W0, hW0⟩ : ∃ W0, (w.alloc (.cells #[.pointer (some ⟨b, 0, none⟩)] 51)).alloc (.cells #[.int .i64 0] 41) = W0 := ⟨_, rfl⟩
  have x0 : Ext w W0 := by rw [← hW0]; exact ((Ext.refl _).alloc _).alloc _
  obtain ⟨k0, k1⟩ := (by rw [← hW0, ← hz]; exact two_new w _ _ _ _ : W0.cell? ⟨z, 0, none⟩ = some (.pointer (some ⟨b, 0, none⟩)) ∧ (W0.cell? ⟨z + 1, 0, none⟩ = some (.int .i64 0) ∧ W0.frozen? ⟨z + 1, 0, none⟩ = false))
  have sz : W0.heap.size = z + 2 := by rw [← hW0, ← hz]; simp
  have HZ := Lib.hid hz
  have c1 := x0.cell h.c1
  have xd : Ext w W0.drew := x0.drew
  clear h hl hT hn hr hrl hN
  refine (callsIn_wide (n := 4)).1 ?_
  refine callsIn_of_wp_marks Tryd.func35 rfl trivial ?_ rfl
  simp only [Tryd.ntmps35, List.size_toArray, List.length_cons, List.length_nil, Nat.reduceAdd, Nat.reduceSub, Array.replicate_succ, Array.replicate_zero, List.push_toArray, List.append_toArray, List.nil_append, List.cons_append]
  gi_wp2_with (first | (refine ⟨trivial, ?_⟩; gi_at_call 64; refine (callsIn_wide.2 (arena_none (H.out.ext x0))).mono ?_; rintro e w' ⟨rfl, rfl⟩))
  refine wpIn_mono (Q := fun e a' W' => e = .normal ∧ ∃ b1 : Nat, a' = { tmps := #[.pointer (some ⟨b, 0, none⟩), .pointer (some ⟨lb, 0, none⟩), .pointer (some ⟨z, 0, none⟩), undef, .pointer (some ⟨z + 1, 0, none⟩), undef, undef, .bool false, .pointer (some ⟨b, 0, none⟩), .bool false, .bool false, .pointer (some ⟨lb, 0, none⟩), .pointer (some ⟨b1, 0, none⟩), .bool false, .bool false, .pointer (some ⟨lb, 0, none⟩), .int .i64 N, .pointer (some ⟨b, 0, none⟩), .pointer (some ⟨b, 0, none⟩), .pointer (some ⟨b, 1, none⟩), .pointer (some ⟨rb, 0, none⟩), .int .i64 N, .bool false, .bool false, undef, undef, undef, undef, undef, undef, undef, undef, undef, undef, undef, undef, undef, undef, undef, undef], defers := [] } ∧ Ext W0 W') ?_ ?_
  · refine wpIn_region_noPanic ?_
    gi_region_with (first
      | (refine ⟨trivial, ?_⟩; gi_at_call 65; refine (callsIn_wide.2 (CPY.out _ xd)).mono ?_; rintro e W1 ⟨b1, g1, rfl, _, _, _, x1⟩; have k0' := x1.cell ((Ext.refl _).drew.cell k0); have k1' := x1.cell ((Ext.refl _).drew.cell k1.1); have f1' := x1.frozenAt ((Ext.refl _).drew.cell k1.1) ((Ext.refl _).drew.frozenAt k1.1 k1.2); have c1' := x1.cell ((Ext.refl _).drew.cell c1); have xx := xd.trans x1)
      | (refine ⟨trivial, ?_⟩; gi_at_call 42; first | (refine (callsIn_wide.2 (LN1.out _ xx)).mono ?_; rintro e w' ⟨rfl, rfl⟩) | (refine (callsIn_wide.2 (LN2.out _ xx)).mono ?_; rintro e w' ⟨rfl, rfl⟩) | fail))
    all_goals
      refine NoPanic.normal ?_
      exact ⟨rfl, _, rfl, (Ext.refl _).drew.trans x1⟩
  · rintro e a' W1 ⟨rfl, b1, rfl, x1⟩
    have K0 := x1.cell k0; have K1 := x1.cell k1.1; have F1 := x1.frozenAt k1.1 k1.2; have C1 := x1.cell c1
    have X1 := Lib.hid (x0.trans x1)
    have x1' := x1.size
    clear k0 k1 c1 xd x1 x0 hW0
    gi_wp2_with (first | (refine ⟨trivial, ?_⟩; gi_at_call 73; refine (callsIn_wide.2 (arena_each _)).mono ?_; rintro e w' ⟨rfl, rfl⟩))
    obtain ⟨y, hy⟩ : ∃ y, W1.heap.size = y := ⟨_, rfl⟩
    obtain ⟨W2, hW2⟩ : ∃ V, W1.alloc (.cells #[.pointer (some ⟨lb, 0, none⟩)] 64) = V := ⟨_, rfl⟩
    have x2 : Ext W1 W2 := by rw [← hW2]; exact (Ext.refl _).alloc _
    have cy : W2.cell? ⟨y, 0, none⟩ = some (.pointer (some ⟨lb, 0, none⟩)) := by rw [← hW2, ← hy]; exact cell_newN W1 _ _ 0
    have sz2 : W2.heap.size = y + 1 := by rw [← hW2, ← hy]; simp
    have X2 := Lib.hid (X1.out.trans x2)
    have zy : z + 2 ≤ y := by rw [← hy, ← sz]; exact x1'
    have k0 := x2.cell K0; have k1 := x2.cell K1; have f1 := x2.frozenAt K1 F1; have c1 := x2.cell C1
    have K := Lib.hid (And.intro k0 (And.intro k1 (And.intro f1 c1)))
    obtain ⟨ab, abg⟩ := AP.out
    have lt := LT.out
    have ST := Lib.hid (each_stops (r := r) 3 (by decide) y lb lg N (fun k => arB b rg k ∨ W2.heap.size ≤ k) (RL.out.trans HN.out) (by unfold arB; omega) (by unfold arB at ab ⊢; omega) (by unfold arB at abg ⊢; omega) (by have := TB.out; have t : 0 < w.heap.size := cell_lt (HT.out 0 (by decide)); have := X2.out.size; unfold arB at *; omega) W2 cy (HL.out.ext X2.out) (HT.out.ext X2.out))
    rw [hW2, hy]
    clear cy hW2 k0 k1 f1 c1 K0 K1 F1 C1 x2 ab abg
    refine wpIn_rangeFunc_ownF rfl (by omega) (gf := 95) (lb := #[.pointer (some ⟨y, 0, none⟩)]) rfl trivial (enters_of Tryd.func95 (by kernel_rfl) rfl)
      ST.out (fun h k => h.trans k) (fun W l o o' hl _ _ _ => (Chg.refl _ W).putObj (.inr hl) o') (Below.refl _ _) (fun _ => rfl)
      (fun pre W => Below W2.heap.size W2 W ∧ ∀ x ∈ pre, bnth bs x.1 = true)
      (fun cc _ W => (cc = .ret ∧ W.cell? ⟨z + 1, 0, none⟩ = some (.int .i64 9) ∧ ∃ i, bnth r i = true ∧ bnth bs i = false) ∧ Below w.heap.size w W)
      (OwnFrom.and (ownFrom_below (Nat.le_refl _) (Nat.le_refl _)) (Own.from (fun _ _ _ _ hs _ _ => hs) _))
      (fun cc => OwnFrom.and (Own.from (fun s A B row hs hg hr => ⟨hs.1, cell_kept hs.2.1 hg hr, hs.2.2⟩) _) (ownFrom_below (Nat.le_refl _) X2.out.size))
      ⟨Below.refl _ _, fun x hx => by cases hx⟩
      (fun x => { tmps := #[.pointer (some ⟨b, 0, none⟩), .pointer (some ⟨lb, 0, none⟩), .pointer (some ⟨z, 0, none⟩), undef, .pointer (some ⟨z + 1, 0, none⟩), .int .i64 (x.1 : Int), undef, .bool false, .pointer (some ⟨b, 0, none⟩), .bool false, .bool false, .pointer (some ⟨lb, 0, none⟩), .pointer (some ⟨b1, 0, none⟩), .bool false, .bool false, .pointer (some ⟨lb, 0, none⟩), .int .i64 N, .pointer (some ⟨b, 0, none⟩), .pointer (some ⟨b, 0, none⟩), .pointer (some ⟨b, 1, none⟩), .pointer (some ⟨rb, 0, none⟩), .int .i64 N, .bool false, .bool false, .pointer (some ⟨lb, 0, none⟩), .func (.func 95) #[] #[.pointer (some ⟨y, 0, none⟩)], .int .i64 (x.1 : Int), undef, undef, undef, undef, undef, undef, undef, undef, undef, undef, undef, undef, undef], defers := [] }) ?assign ?body ?done ?stop
    case assign =>
      intro l x W K hK
      simp only [encB]
      gi_wp2
      exact hK
    case body =>
      rintro l pre x W ⟨hB, hall⟩ hlen
      have hB' : Ext W2 W := hB
      have k0 := hB'.cell K.out.1; have k1 := hB'.cell K.out.2.1; have f1 := hB'.frozenAt K.out.2.1 K.out.2.2.1; have c1 := hB'.cell K.out.2.2.2
      have HB := Lib.hid hB'; have HA := Lib.hid hall
      obtain ⟨n, hn⟩ : ∃ n, x.1 = n := ⟨_, rfl⟩
      have XN := Lib.hid (show n < r.length ∧ bnth r n = true by rw [← hn]; exact x.2)
      have HX := Lib.hid hn
      simp only [hn]
      clear hB hB' hall hn
      cases hb : bnth bs n
      · have GE := Lib.hid (row_Get (i := (n : Int)) bs false (H.out.row.ext (X2.out.trans HB.out)) (by rw [bget_nat, hb]))
        have HBB := Lib.hid hb
        clear hb
        gi_wp2_with (first | (refine ⟨trivial, ?_⟩; gi_at_call 27; refine (CallsIn.inRound l (callsIn_wide.2 GE.out)).mono ?_; rintro e w' ⟨rfl, rfl⟩))
        refine ⟨KeepsOthers.setCell _ _ _, ⟨rfl, World.cell?_setCell_same _ _ _ k1, n, XN.out.2, HBB.out⟩, (X2.out.trans HB.out).setCell (p := ⟨z + 1, 0, none⟩) (by have := HZ.out; show w.heap.size ≤ z + 1; omega) _⟩
      · have GE := Lib.hid (row_Get (i := (n : Int)) bs true (H.out.row.ext (X2.out.trans HB.out)) (by rw [bget_nat, hb]))
        have HBB := Lib.hid hb
        clear hb
        gi_wp2_with (first | (refine ⟨trivial, ?_⟩; gi_at_call 27; refine (CallsIn.inRound l (callsIn_wide.2 GE.out)).mono ?_; rintro e w' ⟨rfl, rfl⟩))
        refine ⟨KeepsOthers.refl _, Chg.refl _ _, HB.out, fun x' hx' => ?_⟩
        rcases List.mem_append.1 hx' with h | h
        · exact HA.out x' h
        · rw [List.mem_singleton.1 h, HX.out]; exact HBB.out
    case stop =>
      rintro D cc pre W hD _ ⟨⟨rfl, c9, i, hi1, hi2⟩, hB⟩ hK
      gi_wp2
      refine ⟨by simp, .inl ⟨_, _, rfl, run_takeDeferred hK, ?_⟩⟩
      have e1 := cell_kept c9 (grownBy_putObj' _ D (.deferred none)) (fun r e => by cases e; exact ⟨_, hK, rfl⟩)
      have hr := HR.out
      unfold giveAllR at hr
      rw [if_neg (fun hh => by
        have hin : i < bs.length := by
          rcases Nat.lt_or_ge i r.length with g | g
          · have := RL.out; omega
          · rw [bnth_out g] at hi1; cases hi1
        rw [hh i hin hi1] at hi2; cases hi2)] at hr
      cases hr
      have hE : Ext w (W.putObj D (.deferred none)) := Chg.ext (((Chg.of_ext (P := fun _ => False) hB).new ((Chg.refl _ W).putObj (by have := X2.out.size; show w.heap.size ≤ D; omega) _)))
      refine ⟨.int .i64 9, ?_, rfl, H.out.ext hE, Chg.of_ext hE⟩
      simp [results, Tryd.f35, go_sem, e1]
    case done =>
      rintro D ys W hD rfl ⟨hB, hall⟩ hK
      have hB' : Ext W2 W := hB
      have HS : Hid (∀ i, bnth r i = true → bnth bs i = true) := Lib.hid fun i hi => by
        have hir : i < r.length := by
          rcases Nat.lt_or_ge i r.length with g | g
          · exact g
          · rw [bnth_out g] at hi; cases hi
        exact hall ⟨i, hir, hi⟩ (onesTo_mem.2 hir)
      have hr := HR.out
      unfold giveAllR at hr
      rw [if_pos (fun i _ hi => HS.out i hi)] at hr
      obtain ⟨rfl, rfl⟩ : bless bs r = bs' ∧ 0 = q := by cases hr; exact ⟨rfl, rfl⟩
      have k0 := hB'.cell K.out.1
      have HB := Lib.hid (X2.out.trans hB'); have HK1 := Lib.hid hK; have HB2 := Lib.hid hB'
      clear hr hall hB hB' hK
      gi_wp2_with (first | (refine ⟨trivial, ?_⟩; gi_at_call 73; refine (callsIn_wide.2 (arena_each _)).mono ?_; rintro e w' ⟨rfl, rfl⟩))
      obtain ⟨y2, hy2⟩ : ∃ y, W.heap.size = y := ⟨_, rfl⟩
      obtain ⟨W3, hW3⟩ : ∃ V, W.alloc (.cells #[.pointer (some ⟨lb, 0, none⟩)] 64) = V := ⟨_, rfl⟩
      have x3 : Ext W W3 := by rw [← hW3]; exact (Ext.refl _).alloc _
      have cy : W3.cell? ⟨y2, 0, none⟩ = some (.pointer (some ⟨lb, 0, none⟩)) := by rw [← hW3, ← hy2]; exact cell_newN W _ _ 0
      have sz3 : W3.heap.size = y2 + 1 := by rw [← hW3, ← hy2]; simp
      have X3 := Lib.hid (HB.out.trans x3)
      have zy2 : y ≤ y2 := by have := HB2.out.size; omega
      have Dlt : D < W.heap.size := (Array.getElem?_eq_some_iff.1 HK1.out).1
      have k0 := x3.cell k0; have k1 := x3.cell (HB2.out.cell K.out.2.1); have f1 := x3.frozenAt (HB2.out.cell K.out.2.1) (HB2.out.frozenAt K.out.2.1 K.out.2.2.1)
      have K3 := Lib.hid (And.intro k0 (And.intro k1 f1))
      have D3 := Lib.hid (x3.block HK1.out)
      obtain ⟨ab, abg⟩ := AP.out
      have ST2 := Lib.hid (each_stops (r := r) 3 (by decide) y2 lb lg N (fun k => arB b rg k ∨ W3.heap.size ≤ k) (RL.out.trans HN.out) (by unfold arB; omega) (by unfold arB at ab ⊢; omega) (by unfold arB at abg ⊢; omega) (by have := TB.out; have t : 0 < w.heap.size := cell_lt (HT.out 0 (by decide)); have := X3.out.size; unfold arB at *; omega) W3 cy (HL.out.ext X3.out) (HT.out.ext X3.out))
      have l3 : b < W3.heap.size ∧ pb < W3.heap.size ∧ gp < W3.heap.size ∧ rb < W3.heap.size ∧ rg < W3.heap.size := by have := X3.out.size; omega
      have LN := Lib.hid (show r.length = nS c t by rw [RL.out]; exact H.out.len)
      rw [hW3, hy2]
      clear cy hW3 k0 k1 f1 x3 ab abg ST
      refine wpIn_rangeFunc_ownF rfl (by omega) (gf := 95) (lb := #[.pointer (some ⟨y2, 0, none⟩)]) rfl trivial (enters_of Tryd.func95 (by kernel_rfl) rfl)
        ST2.out (fun h k => h.trans k) (fun W l o o' hl _ _ _ => (Chg.refl _ W).putObj (.inr hl) o') (Below.refl _ _) (fun _ => rfl)
        (fun pre V => GiveI W3 b pb gp rb rg c t bs r pre V)
        (fun _ _ _ => False)
        (fun s A B row hs hg hr => hs.own l3 hg hr)
        (fun cc s A B row hs hg hr => hs.elim)
        (GiveI.start (H.out.ext X3.out))
        (fun x => { tmps := #[.pointer (some ⟨b, 0, none⟩), .pointer (some ⟨lb, 0, none⟩), .pointer (some ⟨z, 0, none⟩), undef, .pointer (some ⟨z + 1, 0, none⟩), undef, .int .i64 (x.1 : Int), .bool false, .pointer (some ⟨b, 0, none⟩), .bool false, .bool false, .pointer (some ⟨lb, 0, none⟩), .pointer (some ⟨b1, 0, none⟩), .bool false, .bool false, .pointer (some ⟨lb, 0, none⟩), .int .i64 N, .pointer (some ⟨b, 0, none⟩), .pointer (some ⟨b, 0, none⟩), .pointer (some ⟨b, 1, none⟩), .pointer (some ⟨rb, 0, none⟩), .int .i64 N, .bool false, .bool false, .pointer (some ⟨lb, 0, none⟩), .func (.func 95) #[] #[.pointer (some ⟨y, 0, none⟩)], undef, undef, undef, undef, undef, undef, undef, undef, .pointer (some ⟨lb, 0, none⟩), .func (.func 95) #[] #[.pointer (some ⟨y2, 0, none⟩)], .int .i64 (x.1 : Int), undef, undef, undef], defers := [] }) ?assign ?body ?done ?stop
      case assign =>
        intro l x W K hK
        simp only [encB]
        gi_wp2
        exact hK
      case body =>
        rintro l pre x V hG hlen
        have nz : ¬ arB b rg z := by unfold arB; omega
        have k0 := hG.1.cell (p := ⟨z, 0, none⟩) nz K3.out.1
        have GR := Lib.hid (hG.round (x := x) (by have := RL.out; have := HN.out; omega) LN.out HS.out)
        clear hG nz
        gi_wp2_with (first | (refine ⟨trivial, ?_⟩; gi_at_call 72; refine (CallsIn.inRound l (callsIn_wide.2 GR.out)).mono ?_; rintro e W' ⟨rfl, g1, g2, g3⟩))
        exact ⟨g2, g3.mono fun k hk => .inl hk, g1⟩
      case stop =>
        rintro D2 cc pre V _ _ hf _
        exact hf.elim
      case done =>
        rintro D2 ys V hD2 rfl hG hK2
        have nz1 : ¬ arB b rg (z + 1) := by unfold arB; omega
        have nD : ¬ arB b rg D := by unfold arB; omega
        have k1 := hG.1.cell (p := ⟨z + 1, 0, none⟩) nz1 K3.out.2.1
        have f1 : V.frozen? ⟨z + 1, 0, none⟩ = false := by rw [hG.1.frozen (p := ⟨z + 1, 0, none⟩) (cell_lt K3.out.2.1) nz1]; exact K3.out.2.2
        have kD : V.heap[D]? = some (.deferred (some [])) := by rw [hG.1.block D (by omega) nD]; exact D3.out
        have HG := Lib.hid hG
        have HK2 := Lib.hid hK2
        have KD := Lib.hid kD
        clear hG hK2 kD nz1 nD
        gi_wp2
        have hK2' := (KeepsOthers.setCell V ⟨z + 1, 0, none⟩ (.int .i64 0)).same D2 _ HK2.out rfl
        have hKD' := (KeepsOthers.setCell V ⟨z + 1, 0, none⟩ (.int .i64 0)).same D _ KD.out rfl
        refine ⟨by simp, .inl ⟨_, _, rfl, run_takeDeferred hK2', ?_⟩⟩
        have hKD2 : ((V.setCell ⟨z + 1, 0, none⟩ (.int .i64 0)).putObj D2 (.deferred none)).heap[D]? = some (.deferred (some [])) := by
          rw [World.putObj_heap_other (by omega)]; exact hKD'
        refine ⟨by simp, .inl ⟨_, _, rfl, run_takeDeferred hKD2, ?_⟩⟩
        have e0 := World.cell?_setCell_same V ⟨z + 1, 0, none⟩ (.int .i64 0) k1
        have e1 := cell_kept e0 (grownBy_putObj' _ D2 (.deferred none)) (fun r e => by cases e; exact ⟨_, hK2', rfl⟩)
        have e2 := cell_kept e1 (grownBy_putObj' _ D (.deferred none)) (fun r e => by cases e; exact ⟨_, hKD2, rfl⟩)
        have hc : Chg (fun k => w.heap.size ≤ k) V (((V.setCell ⟨z + 1, 0, none⟩ (.int .i64 0)).putObj D2 (.deferred none)).putObj D (.deferred none)) :=
          (((Chg.refl _ V).setCell (p := ⟨z + 1, 0, none⟩) (.inl (by show w.heap.size ≤ z + 1; omega)) _).putObj (by show w.heap.size ≤ D2; omega) _).putObj (by show w.heap.size ≤ D; omega) _
        have lt := LT.out
        refine ⟨.int .i64 0, ?_, rfl, HG.out.done.chg hc (by omega) ⟨by omega, by omega⟩ ⟨by omega, by omega⟩, ((Chg.of_ext X3.out).trans HG.out.1).new hc⟩
        simp [results, Tryd.f35, go_sem, e2]
end Go.Proofs.YtlhajoamebfniaaDoor
