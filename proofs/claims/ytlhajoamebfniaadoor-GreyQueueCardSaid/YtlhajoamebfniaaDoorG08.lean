/-
  Merged texts: Next3.
-/
import Derived.Test.YtlhajoamebfniaaDoorG07
set_option linter.unusedVariables false
set_option linter.unusedSimpArgs false
/-! bits.Row's Next. -/
namespace Go.Proofs.YtlhajoamebfniaaDoor
open Go.RowKit Go.Shelf
attribute [local go_sem] Oper.semAt_some

theorem from_stops (n : Nat) (hn : 1 ≤ n) (n₀ Bi Br Bt b g i : Nat) (bs : List Bool) (is : Bool) (hi : i < bs.length) (w : World) (hBi : Bi < n₀) (hBr : Br < n₀) (hBt : Bt < n₀) (hg : g < n₀)
    (ci : w.cell? ⟨Bi, 0, none⟩ = some (.int .i64 i)) (cr : w.cell? ⟨Br, 0, none⟩ = some (.pointer (some ⟨b, 0, none⟩))) (ct : w.cell? ⟨Bt, 0, none⟩ = some (.int .u64 (turnOf is : Nat))) (hr : RowAt w b g bs) (hb : b < n₀) :
    SeqStopsK Fence.wide n Tryd.prog 104 #[.pointer (some ⟨Bi, 0, none⟩), .pointer (some ⟨Br, 0, none⟩), .pointer (some ⟨Bt, 0, none⟩)] encItem (Below n₀) (fun ys => ys = upto (fitem bs is i) (wlen bs.length - i / 64)) (fun pre => ∃ k, k ≤ wlen bs.length - i / 64 ∧ pre = upto (fitem bs is i) k) (wlen bs.length - i / 64) w := fun l J Jx W hW hJ _ hY h0 => by
  have hx : Ext w W := hW
  exact from1_in n hn l n₀ Bi Br Bt b g i bs is hi hBi hBr hBt hb hg J Jx (fun pre V h => hJ pre V V.drew none h ⟨rfl, rfl, rfl, Nat.le_refl _, fun _ _ _ => rfl⟩ (fun r e => by cases e)) hY W (hx.cell ci) (hx.cell cr) (hx.cell ct) (hr.ext hx) h0

theorem IsNext.neg {bs : List Bool} {fm : Int} {is : Bool} {p : Int} {q : Bool} (h : IsNext bs fm is p q) (hf : fm ≤ 0) : IsNext bs ((0 : Nat) : Int) is p q := by
  rcases h with ⟨rfl, i, rfl, h1, h2, h3, h4⟩ | ⟨rfl, rfl, h4⟩
  · exact .inl ⟨rfl, i, rfl, by omega, h2, h3, fun j _ hj => h4 j (by omega) hj⟩
  · exact .inr ⟨rfl, rfl, fun j _ hj => h4 j (by omega) hj⟩

set_option maxHeartbeats 1000000 in
theorem row_Next_no {p : Option Addr} {i : Int} {is : Bool} {w : World} (h : NoneAt w p true) : Calls Tryd.prog 54 #[.pointer p, .int .i64 i, .bool is] w fun e w' => e = .returned (.tuple #[.int .i64 0, .bool false]) ∧ Ext w w' := by
  have H := Lib.hid h; clear h
  by_cases hi : i < 0
  · cases is
    all_goals
      go_enter Tryd.func54, Tryd.ntmps54
      go_wp2_with fail
      refine (row_has_no (H.out.ext ?_)).mono ?_
      · repeat (first | exact Ext.refl _ | refine Ext.alloc ?_ _)
      rintro e w1 ⟨rfl, rfl⟩
      go_wp2_with fail
      exact bodyPost_ret (v := .tuple #[.int .i64 0, .bool false]) (by simp [results, Tryd.results54, go_sem]) rfl ⟨rfl, by repeat (first | exact Ext.refl _ | refine Ext.alloc ?_ _)⟩
  · have hi0 : 0 ≤ i := by omega
    cases is
    all_goals
      go_enter Tryd.func54, Tryd.ntmps54
      go_wp2_with fail
      refine (row_has_no (H.out.ext ?_)).mono ?_
      · repeat (first | exact Ext.refl _ | refine Ext.alloc ?_ _)
      rintro e w1 ⟨rfl, rfl⟩
      go_wp2_with fail
      exact bodyPost_ret (v := .tuple #[.int .i64 0, .bool false]) (by simp [results, Tryd.results54, go_sem]) rfl ⟨rfl, by repeat (first | exact Ext.refl _ | refine Ext.alloc ?_ _)⟩

set_option maxHeartbeats 1000000 in
theorem row_Next_out {b g : Nat} {i : Int} {is : Bool} (bs : List Bool) {w : World} (h : RowAt w b g bs) (hi : (bs.length : Int) ≤ i ∨ bs.length = 0) : Calls Tryd.prog 54 #[.pointer (some ⟨b, 0, none⟩), .int .i64 i, .bool is] w fun e w' => e = .returned (.tuple #[.int .i64 0, .bool false]) ∧ Ext w w' := by
  have H := Lib.hid h; clear h
  obtain ⟨m, hm, hd⟩ : ∃ m : Int, ((i < 0 ∧ m = 0) ∨ (0 ≤ i ∧ m = i)) ∧ decide (0 ≤ m ∧ m < bs.length) = false := by
    by_cases h : i < 0
    · exact ⟨0, .inl ⟨h, rfl⟩, decide_eq_false (by omega)⟩
    · exact ⟨i, .inr ⟨by omega, rfl⟩, decide_eq_false (by omega)⟩
  have D := Lib.hid hd; clear hd hi
  rcases hm with ⟨hi, rfl⟩ | ⟨hi, rfl⟩
  all_goals
    cases is
    all_goals
      go_enter Tryd.func54, Tryd.ntmps54
      go_wp2_with fail
      refine (row_has bs false (H.out.ext ?_) D.out).mono ?_
      · repeat (first | exact Ext.refl _ | refine Ext.alloc ?_ _)
      rintro e w1 ⟨rfl, rfl⟩
      go_wp2_with fail
      exact bodyPost_ret (v := .tuple #[.int .i64 0, .bool false]) (by simp [results, Tryd.results54, go_sem]) rfl ⟨rfl, by repeat (first | exact Ext.refl _ | refine Ext.alloc ?_ _)⟩

theorem item_step {bs : List Bool} {is : Bool} {i : Nat} {pre : List Item} {x : Item} (hlen : pre.length < wlen bs.length - i / 64) (h65 : bs.length ≤ 65536) (e : pre ++ [x] = upto (fitem bs is i) (pre ++ [x]).length) :
    pre = upto (fitem bs is i) pre.length ∧ x.1.1 = i / 64 + pre.length ∧ x.1.2 = wf bs is i (i / 64 + pre.length) := by
  obtain ⟨e1, e2⟩ := upto_snoc e
  have hl : i / 64 + pre.length < 1024 := by unfold wlen at hlen; omega
  exact ⟨e1, by rw [e2]; exact fitem_fst hl, by rw [e2]; exact fitem_snd hl⟩
theorem snoc_len {α : Type} (pre : List α) (x : α) (k : Nat) : k + (pre ++ [x]).length = k + pre.length + 1 := by rw [List.length_append, List.length_singleton, Nat.add_assoc]
theorem frozen_new1 (w : World) (v : Value) (t : TypeId) : (w.alloc (.cells #[v] t)).frozen? ⟨w.heap.size, 0, none⟩ = false := by simp

set_option maxRecDepth 100000 in
set_option maxHeartbeats 4000000 in
theorem row_Next_in {b g i : Nat} {fm : Int} {is : Bool} (bs : List Bool) (p : Int) (q : Bool) {w : World} (h : RowAt w b g bs) (hT : Tab w) (hi : i < bs.length) (hf : (fm < 0 ∧ i = 0) ∨ fm = i) (hn : IsNext bs i is p q) :
    Calls Tryd.prog 54 #[.pointer (some ⟨b, 0, none⟩), .int .i64 fm, .bool is] w fun e w' => e = .returned (.tuple #[.int .i64 p, .bool q]) ∧ Ext w w' := by
  have H := Lib.hid h
  have HT := Lib.hid hT
  have HN := Lib.hid hn
  have D := Lib.hid (show decide (0 ≤ (i : Int) ∧ (i : Int) < bs.length) = true by simp; omega)
  have h65 := h.most
  have hb := h.lt
  have hg := h.glt (by omega)
  clear h hT hn
  refine (callsIn_wide (n := 3)).1 ?_
  refine callsIn_of_wp_marks Tryd.func54 rfl trivial ?_ rfl
  simp only [Tryd.ntmps54, List.size_toArray, List.length_cons, List.length_nil, Nat.reduceAdd, Nat.reduceSub, Array.replicate_succ, Array.replicate_zero, List.push_toArray, List.append_toArray, List.nil_append, List.cons_append]
  obtain ⟨z, hz⟩ : ∃ z, w.heap.size = z := ⟨_, rfl⟩
  obtain ⟨W0, hW0⟩ : ∃ W0, ((((((w.alloc (.cells #[.pointer (some ⟨b, 0, none⟩)] 64)).alloc (.cells #[.int .i64 0] 3)).alloc (.cells #[.bool false] 4)).alloc (.cells #[.pointer (some ⟨b, 0, none⟩)] 64)).alloc (.cells #[.int .i64 (i : Int)] 3)).alloc (.cells #[.int .u64 ((turnOf is : Nat) : Int)] 120)) = W0 := ⟨_, rfl⟩
  have x0 : Ext w W0 := by rw [← hW0]; repeat (first | exact Ext.refl _ | refine Ext.alloc ?_ _)
  have sz : W0.heap.size = z + 6 := by rw [← hW0, ← hz]; simp
  have k0 : W0.cell? ⟨z, 0, none⟩ = some (.pointer (some ⟨b, 0, none⟩)) := by
    rw [← hW0, ← hz]; exact (by repeat (first | exact Ext.refl _ | refine Ext.alloc ?_ _) : Ext (w.alloc (.cells #[.pointer (some ⟨b, 0, none⟩)] 64)) _).cell (cell_new1 _ _ _)
  have k1 : W0.cell? ⟨z + 1, 0, none⟩ = some (.int .i64 0) ∧ W0.frozen? ⟨z + 1, 0, none⟩ = false := by
    have e := (by rw [← hW0]; repeat (first | exact Ext.refl _ | refine Ext.alloc ?_ _) : Ext ((w.alloc (.cells #[.pointer (some ⟨b, 0, none⟩)] 64)).alloc (.cells #[.int .i64 0] 3)) W0)
    have c := cell_new1 (w.alloc (.cells #[.pointer (some ⟨b, 0, none⟩)] 64)) (.int .i64 0) 3
    rw [World.size_alloc, hz] at c
    exact ⟨e.cell c, e.frozenAt c (by simp [← hz])⟩
  have k2 : W0.cell? ⟨z + 1 + 1, 0, none⟩ = some (.bool false) ∧ W0.frozen? ⟨z + 1 + 1, 0, none⟩ = false := by
    have e := (by rw [← hW0]; repeat (first | exact Ext.refl _ | refine Ext.alloc ?_ _) : Ext (((w.alloc (.cells #[.pointer (some ⟨b, 0, none⟩)] 64)).alloc (.cells #[.int .i64 0] 3)).alloc (.cells #[.bool false] 4)) W0)
    have c := cell_new1 ((w.alloc (.cells #[.pointer (some ⟨b, 0, none⟩)] 64)).alloc (.cells #[.int .i64 0] 3)) (.bool false) 4
    have f := frozen_new1 ((w.alloc (.cells #[.pointer (some ⟨b, 0, none⟩)] 64)).alloc (.cells #[.int .i64 0] 3)) (.bool false) 4
    simp only [World.size_alloc, hz] at c f
    exact ⟨e.cell c, e.frozenAt c f⟩
  have k3 : W0.cell? ⟨z + 1 + 1 + 1, 0, none⟩ = some (.pointer (some ⟨b, 0, none⟩)) := by
    have c := cell_new1 (((w.alloc (.cells #[.pointer (some ⟨b, 0, none⟩)] 64)).alloc (.cells #[.int .i64 0] 3)).alloc (.cells #[.bool false] 4)) (.pointer (some ⟨b, 0, none⟩)) 64
    simp only [World.size_alloc, hz] at c
    rw [← hW0]; exact (((Ext.refl _).alloc _).alloc _).cell c
  have k4 : W0.cell? ⟨z + 1 + 1 + 1 + 1, 0, none⟩ = some (.int .i64 (i : Int)) := by
    have c := cell_new1 ((((w.alloc (.cells #[.pointer (some ⟨b, 0, none⟩)] 64)).alloc (.cells #[.int .i64 0] 3)).alloc (.cells #[.bool false] 4)).alloc (.cells #[.pointer (some ⟨b, 0, none⟩)] 64)) (.int .i64 (i : Int)) 3
    simp only [World.size_alloc, hz] at c
    rw [← hW0]; exact ((Ext.refl _).alloc _).cell c
  have k5 : W0.cell? ⟨z + 1 + 1 + 1 + 1 + 1, 0, none⟩ = some (.int .u64 ((turnOf is : Nat) : Int)) := by
    have c := cell_new1 (((((w.alloc (.cells #[.pointer (some ⟨b, 0, none⟩)] 64)).alloc (.cells #[.int .i64 0] 3)).alloc (.cells #[.bool false] 4)).alloc (.cells #[.pointer (some ⟨b, 0, none⟩)] 64)).alloc (.cells #[.int .i64 (i : Int)] 3)) (.int .u64 ((turnOf is : Nat) : Int)) 120
    simp only [World.size_alloc, hz] at c
    rw [← hW0]; exact c
  have hz' := Lib.hid hz
  have ST := Lib.hid (from_stops 2 (by decide) W0.heap.size (z + 1 + 1 + 1 + 1) (z + 1 + 1 + 1) (z + 1 + 1 + 1 + 1 + 1) b g i bs is hi W0 (by omega) (by omega) (by omega) (by omega) k4 k3 k5 (H.out.ext x0) (by omega))
  have K0 := Lib.hid k0; have K1 := Lib.hid k1; have K2 := Lib.hid k2; have SZ := Lib.hid sz; have HW0 := Lib.hid hW0
  clear k0 k1 k2 k3 k4 k5 sz hz hW0
  rcases hf with ⟨hf, rfl⟩ | rfl
  · have D0 : decide ((0 : Int) ≤ 0 ∧ (0 : Int) < bs.length) = true := D.out
    have HW0 : Hid (((((((w.alloc (.cells #[.pointer (some ⟨b, 0, none⟩)] 64)).alloc (.cells #[.int .i64 0] 3)).alloc (.cells #[.bool false] 4)).alloc (.cells #[.pointer (some ⟨b, 0, none⟩)] 64)).alloc (.cells #[.int .i64 (0 : Int)] 3)).alloc (.cells #[.int .u64 ((turnOf is : Nat) : Int)] 120)) = W0) := Lib.hid HW0.out
    have DD := Lib.hid D0
    clear D0
    cases is
    · gi_wp2_with (first | (refine ⟨trivial, ?_⟩; gi_at_call 69; refine (callsIn_wide.2 (row_has bs true (H.out.ext (by repeat (first | exact Ext.refl _ | refine Ext.alloc ?_ _))) DD.out)).mono ?_; rintro e w' ⟨rfl, rfl⟩) | (refine ⟨trivial, ?_⟩; gi_at_call 88; refine (callsIn_wide.2 (row_from _ _ _)).mono ?_; rintro e w' ⟨rfl, rfl⟩))
      rw [hz'.out]
      rw [show Value.int .u64 (18446744073709551615 : Int) = Value.int .u64 ((turnOf false : Nat) : Int) from rfl, HW0.out]
      refine wpIn_rangeFunc_ownF rfl (by omega) (gf := 104) (lb := #[.pointer (some ⟨z + 1 + 1 + 1 + 1, 0, none⟩), .pointer (some ⟨z + 1 + 1 + 1, 0, none⟩), .pointer (some ⟨z + 1 + 1 + 1 + 1 + 1, 0, none⟩)]) rfl trivial (enters_of Tryd.func104 (by kernel_rfl) rfl)
        ST.out belowK_t (belowK_b (Nat.le_refl _)) (Below.refl _ _) (fun _ => rfl)
        (fun pre W => ((pre = upto (fitem bs false 0) pre.length → NoHit bs false 0 (64 * (0 / 64 + pre.length))) ∧ W.cell? ⟨z, 0, none⟩ = some (.pointer (some ⟨b, 0, none⟩)) ∧ W.cell? ⟨z + 1, 0, none⟩ = some (.int .i64 0) ∧ W.frozen? ⟨z + 1, 0, none⟩ = false ∧ W.cell? ⟨z + 1 + 1, 0, none⟩ = some (.bool false) ∧ W.frozen? ⟨z + 1 + 1, 0, none⟩ = false) ∧ Below w.heap.size w W)
        (fun c pre W => (c = .ret ∧ ∃ y : Int, W.cell? ⟨z + 1, 0, none⟩ = some (.int .i64 y) ∧ W.cell? ⟨z + 1 + 1, 0, none⟩ = some (.bool true) ∧ (pre = upto (fitem bs false 0) pre.length → y = p ∧ q = true)) ∧ Below w.heap.size w W)
        (OwnFrom.and (Own.from (fun s A B row hs hg hr => ⟨hs.1, cell_kept hs.2.1 hg hr, cell_kept hs.2.2.1 hg hr, (frozen_kept hs.2.2.1 hg hr).trans hs.2.2.2.1, cell_kept hs.2.2.2.2.1 hg hr, (frozen_kept hs.2.2.2.2.1 hg hr).trans hs.2.2.2.2.2⟩) _) (ownFrom_below (Nat.le_refl _) x0.size))
        (fun c => OwnFrom.and (Own.from (fun s A B row hs hg hr => by obtain ⟨h1, y, h2, h3, h4⟩ := hs; exact ⟨h1, y, cell_kept h2 hg hr, cell_kept h3 hg hr, h4⟩) _) (ownFrom_below (Nat.le_refl _) x0.size))
        ⟨⟨fun _ j h1 h2 => absurd h2 (by simp), K0.out, K1.out.1, K1.out.2, K2.out.1, K2.out.2⟩, x0⟩
        (fun x => { tmps := #[.pointer (some ⟨b, 0, none⟩), .int .i64 (0 : Int), .bool false, .pointer (some ⟨z, 0, none⟩), undef, undef, .pointer (some ⟨z + 1, 0, none⟩), .pointer (some ⟨z + 1 + 1, 0, none⟩), .int .u64 ((turnOf false : Nat) : Int), .int .i64 (x.1.1 : Int), .int .u64 (x.1.2 : Int), undef, .bool false, .int .i64 fm, .int .i64 (0 : Int), .pointer (some ⟨b, 0, none⟩), .int .i64 (0 : Int), .bool true, .bool false, .pointer (some ⟨b, 0, none⟩), .int .i64 (0 : Int), .int .u64 ((turnOf false : Nat) : Int), .func (.func 104) #[] #[.pointer (some ⟨z + 1 + 1 + 1 + 1, 0, none⟩), .pointer (some ⟨z + 1 + 1 + 1, 0, none⟩), .pointer (some ⟨z + 1 + 1 + 1 + 1 + 1, 0, none⟩)], .int .i64 (x.1.1 : Int), .int .u64 (x.1.2 : Int), undef, undef, undef, undef, undef, undef, undef, undef, undef, undef, undef], defers := [] }) ?assign ?body ?done ?stop
      case assign =>
        intro l x W K hK
        simp only [encItem]
        gi_wp2
        exact hK
      case body =>
        rintro l pre x W ⟨⟨hpure, c0, c1, f1, c2, f2⟩, hB⟩ hlen
        obtain ⟨k, hk'⟩ : ∃ k, x.1.1 = k := ⟨_, rfl⟩
        obtain ⟨v, hv'⟩ : ∃ v, x.1.2 = v := ⟨_, rfl⟩
        have hk : k < 1024 := by rw [← hk']; exact x.2.1
        have HV : Hid (v < 18446744073709551616) := Lib.hid (by rw [← hv']; exact x.2.2)
        have IT := Lib.hid (fun e => item_step (bs := bs) (is := false) (i := 0) (pre := pre) (x := x) hlen h65 e)
        have HP := Lib.hid hpure; have HB := Lib.hid hB
        simp only [hk', hv']
        rw [hk', hv'] at IT
        clear hpure hB hk' hv'
        have fin : v = 0 ∨ ((v : Int) == 0) = false := by
          by_cases e : v = 0
          · exact .inl e
          · exact .inr (by simp; omega)
        rcases fin with rfl | hvz
        · gi_wp2
          refine ⟨KeepsOthers.refl _, Below.refl _ _, ⟨fun e => ?_, c0, c1, f1, c2, f2⟩, HB.out⟩
          obtain ⟨e1, e2, e3⟩ := IT.out e
          rw [snoc_len]
          exact (HP.out e1).zero e3.symm
        · have hv0 : v ≠ 0 := by rintro rfl; simp at hvz
          obtain ⟨cz, hcz⟩ : ∃ cz, Lib.ctz 64 v = cz := ⟨_, rfl⟩
          have cl := (ctz_spec HV.out hv0).1
          rw [hcz] at cl
          have CZ := Lib.hid hcz
          clear hcz
          have t1 : IntKind.i64.wrap ((k : Int) * 64) = (k : Int) * 64 := IntWalk.i64_in _ (by omega)
          have t2 : IntKind.i64.wrap ((k : Int) * 64 + (cz : Int)) = (k : Int) * 64 + (cz : Int) := IntWalk.i64_in _ (by omega)
          obtain ⟨hb', hbd⟩ : ∃ r, decide (0 ≤ (k : Int) * 64 + (cz : Int) ∧ (k : Int) * 64 + (cz : Int) < bs.length) = r := ⟨_, rfl⟩
          have BD := Lib.hid hbd
          clear hbd
          have HIT := Lib.hid (fun e => (HP.out (IT.out e).1).hit (by rw [← (IT.out e).2.2]; exact hv0))
          cases hb'
          · have hge := of_decide_eq_false BD.out
            have HGE := Lib.hid hge
            clear hge
            gi_wp2_with (first | (refine ⟨trivial, ?_⟩; gi_at_call 89; refine (CallsIn.inRound l (callsIn_wide.2 (bits_TZ v HV.out hv0 (HT.out.ext HB.out)))).mono ?_; rw [CZ.out]; rintro e w' ⟨rfl, rfl⟩) | (refine ⟨trivial, ?_⟩; gi_at_call 69; refine (CallsIn.inRound l (callsIn_wide.2 (row_has bs false (H.out.ext HB.out) BD.out))).mono ?_; rintro e w' ⟨rfl, rfl⟩))
            refine ⟨KeepsOthers.refl _, Below.refl _ _, ⟨fun e => ?_, c0, c1, f1, c2, f2⟩, HB.out⟩
            rw [snoc_len]
            have h2 := (HIT.out e).2
            rw [← (IT.out e).2.2, CZ.out] at h2
            exact h2 (by have := HGE.out; have := (IT.out e).2.1; omega)
          · have hlt := of_decide_eq_true BD.out
            have HLT := Lib.hid hlt
            clear hlt
            gi_wp2_with (first | (refine ⟨trivial, ?_⟩; gi_at_call 89; refine (CallsIn.inRound l (callsIn_wide.2 (bits_TZ v HV.out hv0 (HT.out.ext HB.out)))).mono ?_; rw [CZ.out]; rintro e w' ⟨rfl, rfl⟩) | (refine ⟨trivial, ?_⟩; gi_at_call 69; refine (CallsIn.inRound l (callsIn_wide.2 (row_has bs true (H.out.ext HB.out) BD.out))).mono ?_; rintro e w' ⟨rfl, rfl⟩))
            have n12 : (⟨z + 1, 0, none⟩ : Addr) ≠ ⟨z + 1 + 1, 0, none⟩ := by intro e; have := congrArg Addr.block e; simp at this
            refine ⟨(KeepsOthers.setCell _ _ _).trans (KeepsOthers.setCell _ _ _), ⟨rfl, (k : Int) * 64 + (cz : Int), ?_, ?_, fun e => ?_⟩, (HB.out.setCell (p := ⟨z + 1, 0, none⟩) (by have := hz'.out; simp; omega) _).setCell (p := ⟨z + 1 + 1, 0, none⟩) (by have := hz'.out; simp; omega) _⟩
            · rw [World.cell?_setCell_other _ _ _ _ n12.symm]; exact World.cell?_setCell_same _ _ _ c1
            · exact World.cell?_setCell_same (u := .bool false) _ _ _ (by rw [World.cell?_setCell_other _ _ _ _ n12]; exact c2)
            · have h1 := (HIT.out e).1
              rw [← (IT.out e).2.2, CZ.out] at h1
              have := (h1 (by have := HLT.out; have := (IT.out e).2.1; omega)).same HN.out
              refine ⟨?_, this.2.symm⟩
              rw [← this.1, ← (IT.out e).2.1]
              omega
      case done =>
        rintro D ys W hD rfl ⟨⟨hpure, c0, c1, f1, c2, f2⟩, hB⟩ hK
        have n12 : (⟨z + 1, 0, none⟩ : Addr) ≠ ⟨z + 1 + 1, 0, none⟩ := by intro e; have := congrArg Addr.block e; simp at this
        have hno := hpure (by rw [upto_length])
        rw [upto_length] at hno
        have hend := (hno.none (by unfold wlen; omega)).same HN.out
        have EN := Lib.hid hend
        have HB := Lib.hid hB
        have HK := Lib.hid hK
        clear hpure hno hend hB hK
        gi_wp2
        have hK' := ((KeepsOthers.setCell W ⟨z + 1, 0, none⟩ (.int .i64 0)).trans (KeepsOthers.setCell _ ⟨z + 1 + 1, 0, none⟩ (.bool false))).same D _ HK.out rfl
        refine ⟨by simp, .inl ⟨_, _, rfl, run_takeDeferred hK', ?_⟩⟩
        have d1 : ((W.setCell ⟨z + 1, 0, none⟩ (.int .i64 0)).setCell ⟨z + 1 + 1, 0, none⟩ (.bool false)).cell? ⟨z + 1, 0, none⟩ = some (.int .i64 0) := by
          rw [World.cell?_setCell_other _ _ _ _ n12.symm]; exact World.cell?_setCell_same _ _ _ c1
        have d2 : ((W.setCell ⟨z + 1, 0, none⟩ (.int .i64 0)).setCell ⟨z + 1 + 1, 0, none⟩ (.bool false)).cell? ⟨z + 1 + 1, 0, none⟩ = some (.bool false) :=
          World.cell?_setCell_same (u := .bool false) _ _ _ (by rw [World.cell?_setCell_other _ _ _ _ n12]; exact c2)
        have e1 := cell_kept d1 (grownBy_putObj' _ D (.deferred none)) (fun r e => by cases e; exact ⟨_, hK', rfl⟩)
        have e2 := cell_kept d2 (grownBy_putObj' _ D (.deferred none)) (fun r e => by cases e; exact ⟨_, hK', rfl⟩)
        refine ⟨.tuple #[.int .i64 0, .bool false], ?_, by rw [← EN.out.1, ← EN.out.2], ((HB.out.setCell (p := ⟨z + 1, 0, none⟩) (by have := hz'.out; simp; omega) _).setCell (p := ⟨z + 1 + 1, 0, none⟩) (by have := hz'.out; simp; omega) _).trans (belowK_b (w := w) (Nat.le_refl _) _ D _ _ (Nat.le_trans x0.size hD) hK' rfl rfl)⟩
        simp [results, Tryd.f54, go_sem, e1, e2]
      case stop =>
        rintro D c pre W hD ⟨m, hm, rfl⟩ ⟨⟨rfl, y, c1, c2, hyq⟩, hB⟩ hK
        obtain ⟨rfl, rfl⟩ := hyq (by rw [upto_length])
        gi_wp2
        refine ⟨by simp, .inl ⟨_, _, rfl, run_takeDeferred hK, ?_⟩⟩
        have e1 := cell_kept c1 (grownBy_putObj' _ D (.deferred none)) (fun r e => by cases e; exact ⟨_, hK, rfl⟩)
        have e2 := cell_kept c2 (grownBy_putObj' _ D (.deferred none)) (fun r e => by cases e; exact ⟨_, hK, rfl⟩)
        refine ⟨.tuple #[.int .i64 y, .bool true], ?_, rfl, hB.trans (belowK_b (w := w) (Nat.le_refl _) W D _ _ (Nat.le_trans x0.size hD) hK rfl rfl)⟩
        simp [results, Tryd.f54, go_sem, e1, e2]
    · gi_wp2_with (first | (refine ⟨trivial, ?_⟩; gi_at_call 69; refine (callsIn_wide.2 (row_has bs true (H.out.ext (by repeat (first | exact Ext.refl _ | refine Ext.alloc ?_ _))) DD.out)).mono ?_; rintro e w' ⟨rfl, rfl⟩) | (refine ⟨trivial, ?_⟩; gi_at_call 88; refine (callsIn_wide.2 (row_from _ _ _)).mono ?_; rintro e w' ⟨rfl, rfl⟩))
      rw [hz'.out]
      rw [show ((((((w.alloc (.cells #[.pointer (some ⟨b, 0, none⟩)] 64)).alloc (.cells #[.int .i64 0] 3)).alloc (.cells #[.bool false] 4)).alloc (.cells #[.pointer (some ⟨b, 0, none⟩)] 64)).alloc (.cells #[.int .i64 (0 : Int)] 3)).alloc (.cells #[.int .u64 0] 120)) = W0 from HW0.out]
      refine wpIn_rangeFunc_ownF rfl (by omega) (gf := 104) (lb := #[.pointer (some ⟨z + 1 + 1 + 1 + 1, 0, none⟩), .pointer (some ⟨z + 1 + 1 + 1, 0, none⟩), .pointer (some ⟨z + 1 + 1 + 1 + 1 + 1, 0, none⟩)]) rfl trivial (enters_of Tryd.func104 (by kernel_rfl) rfl)
        ST.out belowK_t (belowK_b (Nat.le_refl _)) (Below.refl _ _) (fun _ => rfl)
        (fun pre W => ((pre = upto (fitem bs true 0) pre.length → NoHit bs true 0 (64 * (0 / 64 + pre.length))) ∧ W.cell? ⟨z, 0, none⟩ = some (.pointer (some ⟨b, 0, none⟩)) ∧ W.cell? ⟨z + 1, 0, none⟩ = some (.int .i64 0) ∧ W.frozen? ⟨z + 1, 0, none⟩ = false ∧ W.cell? ⟨z + 1 + 1, 0, none⟩ = some (.bool false) ∧ W.frozen? ⟨z + 1 + 1, 0, none⟩ = false) ∧ Below w.heap.size w W)
        (fun c pre W => (c = .ret ∧ ∃ y : Int, W.cell? ⟨z + 1, 0, none⟩ = some (.int .i64 y) ∧ W.cell? ⟨z + 1 + 1, 0, none⟩ = some (.bool true) ∧ (pre = upto (fitem bs true 0) pre.length → y = p ∧ q = true)) ∧ Below w.heap.size w W)
        (OwnFrom.and (Own.from (fun s A B row hs hg hr => ⟨hs.1, cell_kept hs.2.1 hg hr, cell_kept hs.2.2.1 hg hr, (frozen_kept hs.2.2.1 hg hr).trans hs.2.2.2.1, cell_kept hs.2.2.2.2.1 hg hr, (frozen_kept hs.2.2.2.2.1 hg hr).trans hs.2.2.2.2.2⟩) _) (ownFrom_below (Nat.le_refl _) x0.size))
        (fun c => OwnFrom.and (Own.from (fun s A B row hs hg hr => by obtain ⟨h1, y, h2, h3, h4⟩ := hs; exact ⟨h1, y, cell_kept h2 hg hr, cell_kept h3 hg hr, h4⟩) _) (ownFrom_below (Nat.le_refl _) x0.size))
        ⟨⟨fun _ j h1 h2 => absurd h2 (by simp), K0.out, K1.out.1, K1.out.2, K2.out.1, K2.out.2⟩, x0⟩
        (fun x => { tmps := #[.pointer (some ⟨b, 0, none⟩), .int .i64 (0 : Int), .bool true, .pointer (some ⟨z, 0, none⟩), undef, undef, .pointer (some ⟨z + 1, 0, none⟩), .pointer (some ⟨z + 1 + 1, 0, none⟩), .int .u64 (0 : Int), .int .i64 (x.1.1 : Int), .int .u64 (x.1.2 : Int), undef, .bool true, .int .i64 fm, .int .i64 (0 : Int), .pointer (some ⟨b, 0, none⟩), .int .i64 (0 : Int), .bool true, .bool false, .pointer (some ⟨b, 0, none⟩), .int .i64 (0 : Int), .int .u64 (0 : Int), .func (.func 104) #[] #[.pointer (some ⟨z + 1 + 1 + 1 + 1, 0, none⟩), .pointer (some ⟨z + 1 + 1 + 1, 0, none⟩), .pointer (some ⟨z + 1 + 1 + 1 + 1 + 1, 0, none⟩)], .int .i64 (x.1.1 : Int), .int .u64 (x.1.2 : Int), undef, undef, undef, undef, undef, undef, undef, undef, undef, undef, undef], defers := [] }) ?assign ?body ?done ?stop
      case assign =>
        intro l x W K hK
        simp only [encItem]
        gi_wp2
        exact hK
      case body =>
        rintro l pre x W ⟨⟨hpure, c0, c1, f1, c2, f2⟩, hB⟩ hlen
        obtain ⟨k, hk'⟩ : ∃ k, x.1.1 = k := ⟨_, rfl⟩
        obtain ⟨v, hv'⟩ : ∃ v, x.1.2 = v := ⟨_, rfl⟩
        have hk : k < 1024 := by rw [← hk']; exact x.2.1
        have HV : Hid (v < 18446744073709551616) := Lib.hid (by rw [← hv']; exact x.2.2)
        have IT := Lib.hid (fun e => item_step (bs := bs) (is := true) (i := 0) (pre := pre) (x := x) hlen h65 e)
        have HP := Lib.hid hpure; have HB := Lib.hid hB
        simp only [hk', hv']
        rw [hk', hv'] at IT
        clear hpure hB hk' hv'
        have fin : v = 0 ∨ ((v : Int) == 0) = false := by
          by_cases e : v = 0
          · exact .inl e
          · exact .inr (by simp; omega)
        rcases fin with rfl | hvz
        · gi_wp2
          refine ⟨KeepsOthers.refl _, Below.refl _ _, ⟨fun e => ?_, c0, c1, f1, c2, f2⟩, HB.out⟩
          obtain ⟨e1, e2, e3⟩ := IT.out e
          rw [snoc_len]
          exact (HP.out e1).zero e3.symm
        · have hv0 : v ≠ 0 := by rintro rfl; simp at hvz
          obtain ⟨cz, hcz⟩ : ∃ cz, Lib.ctz 64 v = cz := ⟨_, rfl⟩
          have cl := (ctz_spec HV.out hv0).1
          rw [hcz] at cl
          have CZ := Lib.hid hcz
          clear hcz
          have t1 : IntKind.i64.wrap ((k : Int) * 64) = (k : Int) * 64 := IntWalk.i64_in _ (by omega)
          have t2 : IntKind.i64.wrap ((k : Int) * 64 + (cz : Int)) = (k : Int) * 64 + (cz : Int) := IntWalk.i64_in _ (by omega)
          obtain ⟨hb', hbd⟩ : ∃ r, decide (0 ≤ (k : Int) * 64 + (cz : Int) ∧ (k : Int) * 64 + (cz : Int) < bs.length) = r := ⟨_, rfl⟩
          have BD := Lib.hid hbd
          clear hbd
          have HIT := Lib.hid (fun e => (HP.out (IT.out e).1).hit (by rw [← (IT.out e).2.2]; exact hv0))
          cases hb'
          · have hge := of_decide_eq_false BD.out
            have HGE := Lib.hid hge
            clear hge
            gi_wp2_with (first | (refine ⟨trivial, ?_⟩; gi_at_call 89; refine (CallsIn.inRound l (callsIn_wide.2 (bits_TZ v HV.out hv0 (HT.out.ext HB.out)))).mono ?_; rw [CZ.out]; rintro e w' ⟨rfl, rfl⟩) | (refine ⟨trivial, ?_⟩; gi_at_call 69; refine (CallsIn.inRound l (callsIn_wide.2 (row_has bs false (H.out.ext HB.out) BD.out))).mono ?_; rintro e w' ⟨rfl, rfl⟩))
            refine ⟨KeepsOthers.refl _, Below.refl _ _, ⟨fun e => ?_, c0, c1, f1, c2, f2⟩, HB.out⟩
            rw [snoc_len]
            have h2 := (HIT.out e).2
            rw [← (IT.out e).2.2, CZ.out] at h2
            exact h2 (by have := HGE.out; have := (IT.out e).2.1; omega)
          · have hlt := of_decide_eq_true BD.out
            have HLT := Lib.hid hlt
            clear hlt
            gi_wp2_with (first | (refine ⟨trivial, ?_⟩; gi_at_call 89; refine (CallsIn.inRound l (callsIn_wide.2 (bits_TZ v HV.out hv0 (HT.out.ext HB.out)))).mono ?_; rw [CZ.out]; rintro e w' ⟨rfl, rfl⟩) | (refine ⟨trivial, ?_⟩; gi_at_call 69; refine (CallsIn.inRound l (callsIn_wide.2 (row_has bs true (H.out.ext HB.out) BD.out))).mono ?_; rintro e w' ⟨rfl, rfl⟩))
            have n12 : (⟨z + 1, 0, none⟩ : Addr) ≠ ⟨z + 1 + 1, 0, none⟩ := by intro e; have := congrArg Addr.block e; simp at this
            refine ⟨(KeepsOthers.setCell _ _ _).trans (KeepsOthers.setCell _ _ _), ⟨rfl, (k : Int) * 64 + (cz : Int), ?_, ?_, fun e => ?_⟩, (HB.out.setCell (p := ⟨z + 1, 0, none⟩) (by have := hz'.out; simp; omega) _).setCell (p := ⟨z + 1 + 1, 0, none⟩) (by have := hz'.out; simp; omega) _⟩
            · rw [World.cell?_setCell_other _ _ _ _ n12.symm]; exact World.cell?_setCell_same _ _ _ c1
            · exact World.cell?_setCell_same (u := .bool false) _ _ _ (by rw [World.cell?_setCell_other _ _ _ _ n12]; exact c2)
            · have h1 := (HIT.out e).1
              rw [← (IT.out e).2.2, CZ.out] at h1
              have := (h1 (by have := HLT.out; have := (IT.out e).2.1; omega)).same HN.out
              refine ⟨?_, this.2.symm⟩
              rw [← this.1, ← (IT.out e).2.1]
              omega
      case done =>
        rintro D ys W hD rfl ⟨⟨hpure, c0, c1, f1, c2, f2⟩, hB⟩ hK
        have n12 : (⟨z + 1, 0, none⟩ : Addr) ≠ ⟨z + 1 + 1, 0, none⟩ := by intro e; have := congrArg Addr.block e; simp at this
        have hno := hpure (by rw [upto_length])
        rw [upto_length] at hno
        have hend := (hno.none (by unfold wlen; omega)).same HN.out
        have EN := Lib.hid hend
        have HB := Lib.hid hB
        have HK := Lib.hid hK
        clear hpure hno hend hB hK
        gi_wp2
        have hK' := ((KeepsOthers.setCell W ⟨z + 1, 0, none⟩ (.int .i64 0)).trans (KeepsOthers.setCell _ ⟨z + 1 + 1, 0, none⟩ (.bool false))).same D _ HK.out rfl
        refine ⟨by simp, .inl ⟨_, _, rfl, run_takeDeferred hK', ?_⟩⟩
        have d1 : ((W.setCell ⟨z + 1, 0, none⟩ (.int .i64 0)).setCell ⟨z + 1 + 1, 0, none⟩ (.bool false)).cell? ⟨z + 1, 0, none⟩ = some (.int .i64 0) := by
          rw [World.cell?_setCell_other _ _ _ _ n12.symm]; exact World.cell?_setCell_same _ _ _ c1
        have d2 : ((W.setCell ⟨z + 1, 0, none⟩ (.int .i64 0)).setCell ⟨z + 1 + 1, 0, none⟩ (.bool false)).cell? ⟨z + 1 + 1, 0, none⟩ = some (.bool false) :=
          World.cell?_setCell_same (u := .bool false) _ _ _ (by rw [World.cell?_setCell_other _ _ _ _ n12]; exact c2)
        have e1 := cell_kept d1 (grownBy_putObj' _ D (.deferred none)) (fun r e => by cases e; exact ⟨_, hK', rfl⟩)
        have e2 := cell_kept d2 (grownBy_putObj' _ D (.deferred none)) (fun r e => by cases e; exact ⟨_, hK', rfl⟩)
        refine ⟨.tuple #[.int .i64 0, .bool false], ?_, by rw [← EN.out.1, ← EN.out.2], ((HB.out.setCell (p := ⟨z + 1, 0, none⟩) (by have := hz'.out; simp; omega) _).setCell (p := ⟨z + 1 + 1, 0, none⟩) (by have := hz'.out; simp; omega) _).trans (belowK_b (w := w) (Nat.le_refl _) _ D _ _ (Nat.le_trans x0.size hD) hK' rfl rfl)⟩
        simp [results, Tryd.f54, go_sem, e1, e2]
      case stop =>
        rintro D c pre W hD ⟨m, hm, rfl⟩ ⟨⟨rfl, y, c1, c2, hyq⟩, hB⟩ hK
        obtain ⟨rfl, rfl⟩ := hyq (by rw [upto_length])
        gi_wp2
        refine ⟨by simp, .inl ⟨_, _, rfl, run_takeDeferred hK, ?_⟩⟩
        have e1 := cell_kept c1 (grownBy_putObj' _ D (.deferred none)) (fun r e => by cases e; exact ⟨_, hK, rfl⟩)
        have e2 := cell_kept c2 (grownBy_putObj' _ D (.deferred none)) (fun r e => by cases e; exact ⟨_, hK, rfl⟩)
        refine ⟨.tuple #[.int .i64 y, .bool true], ?_, rfl, hB.trans (belowK_b (w := w) (Nat.le_refl _) W D _ _ (Nat.le_trans x0.size hD) hK rfl rfl)⟩
        simp [results, Tryd.f54, go_sem, e1, e2]
  · cases is
    · gi_wp2_with (first | (refine ⟨trivial, ?_⟩; gi_at_call 69; refine (callsIn_wide.2 (row_has bs true (H.out.ext (by repeat (first | exact Ext.refl _ | refine Ext.alloc ?_ _))) D.out)).mono ?_; rintro e w' ⟨rfl, rfl⟩) | (refine ⟨trivial, ?_⟩; gi_at_call 88; refine (callsIn_wide.2 (row_from _ _ _)).mono ?_; rintro e w' ⟨rfl, rfl⟩))
      rw [hz'.out]
      rw [show Value.int .u64 (18446744073709551615 : Int) = Value.int .u64 ((turnOf false : Nat) : Int) from rfl, HW0.out]
      refine wpIn_rangeFunc_ownF rfl (by omega) (gf := 104) (lb := #[.pointer (some ⟨z + 1 + 1 + 1 + 1, 0, none⟩), .pointer (some ⟨z + 1 + 1 + 1, 0, none⟩), .pointer (some ⟨z + 1 + 1 + 1 + 1 + 1, 0, none⟩)]) rfl trivial (enters_of Tryd.func104 (by kernel_rfl) rfl)
        ST.out belowK_t (belowK_b (Nat.le_refl _)) (Below.refl _ _) (fun _ => rfl)
        (fun pre W => ((pre = upto (fitem bs false i) pre.length → NoHit bs false i (64 * (i / 64 + pre.length))) ∧ W.cell? ⟨z, 0, none⟩ = some (.pointer (some ⟨b, 0, none⟩)) ∧ W.cell? ⟨z + 1, 0, none⟩ = some (.int .i64 0) ∧ W.frozen? ⟨z + 1, 0, none⟩ = false ∧ W.cell? ⟨z + 1 + 1, 0, none⟩ = some (.bool false) ∧ W.frozen? ⟨z + 1 + 1, 0, none⟩ = false) ∧ Below w.heap.size w W)
        (fun c pre W => (c = .ret ∧ ∃ y : Int, W.cell? ⟨z + 1, 0, none⟩ = some (.int .i64 y) ∧ W.cell? ⟨z + 1 + 1, 0, none⟩ = some (.bool true) ∧ (pre = upto (fitem bs false i) pre.length → y = p ∧ q = true)) ∧ Below w.heap.size w W)
        (OwnFrom.and (Own.from (fun s A B row hs hg hr => ⟨hs.1, cell_kept hs.2.1 hg hr, cell_kept hs.2.2.1 hg hr, (frozen_kept hs.2.2.1 hg hr).trans hs.2.2.2.1, cell_kept hs.2.2.2.2.1 hg hr, (frozen_kept hs.2.2.2.2.1 hg hr).trans hs.2.2.2.2.2⟩) _) (ownFrom_below (Nat.le_refl _) x0.size))
        (fun c => OwnFrom.and (Own.from (fun s A B row hs hg hr => by obtain ⟨h1, y, h2, h3, h4⟩ := hs; exact ⟨h1, y, cell_kept h2 hg hr, cell_kept h3 hg hr, h4⟩) _) (ownFrom_below (Nat.le_refl _) x0.size))
        ⟨⟨fun _ j h1 h2 => absurd h2 (by simp; omega), K0.out, K1.out.1, K1.out.2, K2.out.1, K2.out.2⟩, x0⟩
        (fun x => { tmps := #[.pointer (some ⟨b, 0, none⟩), .int .i64 i, .bool false, .pointer (some ⟨z, 0, none⟩), undef, undef, .pointer (some ⟨z + 1, 0, none⟩), .pointer (some ⟨z + 1 + 1, 0, none⟩), .int .u64 ((turnOf false : Nat) : Int), .int .i64 (x.1.1 : Int), .int .u64 (x.1.2 : Int), undef, .bool false, .int .i64 i, .int .i64 i, .pointer (some ⟨b, 0, none⟩), .int .i64 i, .bool true, .bool false, .pointer (some ⟨b, 0, none⟩), .int .i64 i, .int .u64 ((turnOf false : Nat) : Int), .func (.func 104) #[] #[.pointer (some ⟨z + 1 + 1 + 1 + 1, 0, none⟩), .pointer (some ⟨z + 1 + 1 + 1, 0, none⟩), .pointer (some ⟨z + 1 + 1 + 1 + 1 + 1, 0, none⟩)], .int .i64 (x.1.1 : Int), .int .u64 (x.1.2 : Int), undef, undef, undef, undef, undef, undef, undef, undef, undef, undef, undef], defers := [] }) ?assign ?body ?done ?stop
      case assign =>
        intro l x W K hK
        simp only [encItem]
        gi_wp2
        exact hK
      case body =>
        rintro l pre x W ⟨⟨hpure, c0, c1, f1, c2, f2⟩, hB⟩ hlen
        obtain ⟨k, hk'⟩ : ∃ k, x.1.1 = k := ⟨_, rfl⟩
        obtain ⟨v, hv'⟩ : ∃ v, x.1.2 = v := ⟨_, rfl⟩
        have hk : k < 1024 := by rw [← hk']; exact x.2.1
        have HV : Hid (v < 18446744073709551616) := Lib.hid (by rw [← hv']; exact x.2.2)
        have IT := Lib.hid (fun e => item_step (bs := bs) (is := false) (i := i) (pre := pre) (x := x) hlen h65 e)
        have HP := Lib.hid hpure; have HB := Lib.hid hB
        simp only [hk', hv']
        rw [hk', hv'] at IT
        clear hpure hB hk' hv'
        have fin : v = 0 ∨ ((v : Int) == 0) = false := by
          by_cases e : v = 0
          · exact .inl e
          · exact .inr (by simp; omega)
        rcases fin with rfl | hvz
        · gi_wp2
          refine ⟨KeepsOthers.refl _, Below.refl _ _, ⟨fun e => ?_, c0, c1, f1, c2, f2⟩, HB.out⟩
          obtain ⟨e1, e2, e3⟩ := IT.out e
          rw [snoc_len]
          exact (HP.out e1).zero e3.symm
        · have hv0 : v ≠ 0 := by rintro rfl; simp at hvz
          obtain ⟨cz, hcz⟩ : ∃ cz, Lib.ctz 64 v = cz := ⟨_, rfl⟩
          have cl := (ctz_spec HV.out hv0).1
          rw [hcz] at cl
          have CZ := Lib.hid hcz
          clear hcz
          have t1 : IntKind.i64.wrap ((k : Int) * 64) = (k : Int) * 64 := IntWalk.i64_in _ (by omega)
          have t2 : IntKind.i64.wrap ((k : Int) * 64 + (cz : Int)) = (k : Int) * 64 + (cz : Int) := IntWalk.i64_in _ (by omega)
          obtain ⟨hb', hbd⟩ : ∃ r, decide (0 ≤ (k : Int) * 64 + (cz : Int) ∧ (k : Int) * 64 + (cz : Int) < bs.length) = r := ⟨_, rfl⟩
          have BD := Lib.hid hbd
          clear hbd
          have HIT := Lib.hid (fun e => (HP.out (IT.out e).1).hit (by rw [← (IT.out e).2.2]; exact hv0))
          cases hb'
          · have hge := of_decide_eq_false BD.out
            have HGE := Lib.hid hge
            clear hge
            gi_wp2_with (first | (refine ⟨trivial, ?_⟩; gi_at_call 89; refine (CallsIn.inRound l (callsIn_wide.2 (bits_TZ v HV.out hv0 (HT.out.ext HB.out)))).mono ?_; rw [CZ.out]; rintro e w' ⟨rfl, rfl⟩) | (refine ⟨trivial, ?_⟩; gi_at_call 69; refine (CallsIn.inRound l (callsIn_wide.2 (row_has bs false (H.out.ext HB.out) BD.out))).mono ?_; rintro e w' ⟨rfl, rfl⟩))
            refine ⟨KeepsOthers.refl _, Below.refl _ _, ⟨fun e => ?_, c0, c1, f1, c2, f2⟩, HB.out⟩
            rw [snoc_len]
            have h2 := (HIT.out e).2
            rw [← (IT.out e).2.2, CZ.out] at h2
            exact h2 (by have := HGE.out; have := (IT.out e).2.1; omega)
          · have hlt := of_decide_eq_true BD.out
            have HLT := Lib.hid hlt
            clear hlt
            gi_wp2_with (first | (refine ⟨trivial, ?_⟩; gi_at_call 89; refine (CallsIn.inRound l (callsIn_wide.2 (bits_TZ v HV.out hv0 (HT.out.ext HB.out)))).mono ?_; rw [CZ.out]; rintro e w' ⟨rfl, rfl⟩) | (refine ⟨trivial, ?_⟩; gi_at_call 69; refine (CallsIn.inRound l (callsIn_wide.2 (row_has bs true (H.out.ext HB.out) BD.out))).mono ?_; rintro e w' ⟨rfl, rfl⟩))
            have n12 : (⟨z + 1, 0, none⟩ : Addr) ≠ ⟨z + 1 + 1, 0, none⟩ := by intro e; have := congrArg Addr.block e; simp at this
            refine ⟨(KeepsOthers.setCell _ _ _).trans (KeepsOthers.setCell _ _ _), ⟨rfl, (k : Int) * 64 + (cz : Int), ?_, ?_, fun e => ?_⟩, (HB.out.setCell (p := ⟨z + 1, 0, none⟩) (by have := hz'.out; simp; omega) _).setCell (p := ⟨z + 1 + 1, 0, none⟩) (by have := hz'.out; simp; omega) _⟩
            · rw [World.cell?_setCell_other _ _ _ _ n12.symm]; exact World.cell?_setCell_same _ _ _ c1
            · exact World.cell?_setCell_same (u := .bool false) _ _ _ (by rw [World.cell?_setCell_other _ _ _ _ n12]; exact c2)
            · have h1 := (HIT.out e).1
              rw [← (IT.out e).2.2, CZ.out] at h1
              have := (h1 (by have := HLT.out; have := (IT.out e).2.1; omega)).same HN.out
              refine ⟨?_, this.2.symm⟩
              rw [← this.1, ← (IT.out e).2.1]
              omega
      case done =>
        rintro D ys W hD rfl ⟨⟨hpure, c0, c1, f1, c2, f2⟩, hB⟩ hK
        have n12 : (⟨z + 1, 0, none⟩ : Addr) ≠ ⟨z + 1 + 1, 0, none⟩ := by intro e; have := congrArg Addr.block e; simp at this
        have hno := hpure (by rw [upto_length])
        rw [upto_length] at hno
        have hend := (hno.none (by unfold wlen; omega)).same HN.out
        have EN := Lib.hid hend
        have HB := Lib.hid hB
        have HK := Lib.hid hK
        clear hpure hno hend hB hK
        gi_wp2
        have hK' := ((KeepsOthers.setCell W ⟨z + 1, 0, none⟩ (.int .i64 0)).trans (KeepsOthers.setCell _ ⟨z + 1 + 1, 0, none⟩ (.bool false))).same D _ HK.out rfl
        refine ⟨by simp, .inl ⟨_, _, rfl, run_takeDeferred hK', ?_⟩⟩
        have d1 : ((W.setCell ⟨z + 1, 0, none⟩ (.int .i64 0)).setCell ⟨z + 1 + 1, 0, none⟩ (.bool false)).cell? ⟨z + 1, 0, none⟩ = some (.int .i64 0) := by
          rw [World.cell?_setCell_other _ _ _ _ n12.symm]; exact World.cell?_setCell_same _ _ _ c1
        have d2 : ((W.setCell ⟨z + 1, 0, none⟩ (.int .i64 0)).setCell ⟨z + 1 + 1, 0, none⟩ (.bool false)).cell? ⟨z + 1 + 1, 0, none⟩ = some (.bool false) :=
          World.cell?_setCell_same (u := .bool false) _ _ _ (by rw [World.cell?_setCell_other _ _ _ _ n12]; exact c2)
        have e1 := cell_kept d1 (grownBy_putObj' _ D (.deferred none)) (fun r e => by cases e; exact ⟨_, hK', rfl⟩)
        have e2 := cell_kept d2 (grownBy_putObj' _ D (.deferred none)) (fun r e => by cases e; exact ⟨_, hK', rfl⟩)
        refine ⟨.tuple #[.int .i64 0, .bool false], ?_, by rw [← EN.out.1, ← EN.out.2], ((HB.out.setCell (p := ⟨z + 1, 0, none⟩) (by have := hz'.out; simp; omega) _).setCell (p := ⟨z + 1 + 1, 0, none⟩) (by have := hz'.out; simp; omega) _).trans (belowK_b (w := w) (Nat.le_refl _) _ D _ _ (Nat.le_trans x0.size hD) hK' rfl rfl)⟩
        simp [results, Tryd.f54, go_sem, e1, e2]
      case stop =>
        rintro D c pre W hD ⟨m, hm, rfl⟩ ⟨⟨rfl, y, c1, c2, hyq⟩, hB⟩ hK
        obtain ⟨rfl, rfl⟩ := hyq (by rw [upto_length])
        gi_wp2
        refine ⟨by simp, .inl ⟨_, _, rfl, run_takeDeferred hK, ?_⟩⟩
        have e1 := cell_kept c1 (grownBy_putObj' _ D (.deferred none)) (fun r e => by cases e; exact ⟨_, hK, rfl⟩)
        have e2 := cell_kept c2 (grownBy_putObj' _ D (.deferred none)) (fun r e => by cases e; exact ⟨_, hK, rfl⟩)
        refine ⟨.tuple #[.int .i64 y, .bool true], ?_, rfl, hB.trans (belowK_b (w := w) (Nat.le_refl _) W D _ _ (Nat.le_trans x0.size hD) hK rfl rfl)⟩
        simp [results, Tryd.f54, go_sem, e1, e2]
    · gi_wp2_with (first | (refine ⟨trivial, ?_⟩; gi_at_call 69; refine (callsIn_wide.2 (row_has bs true (H.out.ext (by repeat (first | exact Ext.refl _ | refine Ext.alloc ?_ _))) D.out)).mono ?_; rintro e w' ⟨rfl, rfl⟩) | (refine ⟨trivial, ?_⟩; gi_at_call 88; refine (callsIn_wide.2 (row_from _ _ _)).mono ?_; rintro e w' ⟨rfl, rfl⟩))
      rw [hz'.out]
      rw [show ((((((w.alloc (.cells #[.pointer (some ⟨b, 0, none⟩)] 64)).alloc (.cells #[.int .i64 0] 3)).alloc (.cells #[.bool false] 4)).alloc (.cells #[.pointer (some ⟨b, 0, none⟩)] 64)).alloc (.cells #[.int .i64 (i : Int)] 3)).alloc (.cells #[.int .u64 0] 120)) = W0 from HW0.out]
      refine wpIn_rangeFunc_ownF rfl (by omega) (gf := 104) (lb := #[.pointer (some ⟨z + 1 + 1 + 1 + 1, 0, none⟩), .pointer (some ⟨z + 1 + 1 + 1, 0, none⟩), .pointer (some ⟨z + 1 + 1 + 1 + 1 + 1, 0, none⟩)]) rfl trivial (enters_of Tryd.func104 (by kernel_rfl) rfl)
        ST.out belowK_t (belowK_b (Nat.le_refl _)) (Below.refl _ _) (fun _ => rfl)
        (fun pre W => ((pre = upto (fitem bs true i) pre.length → NoHit bs true i (64 * (i / 64 + pre.length))) ∧ W.cell? ⟨z, 0, none⟩ = some (.pointer (some ⟨b, 0, none⟩)) ∧ W.cell? ⟨z + 1, 0, none⟩ = some (.int .i64 0) ∧ W.frozen? ⟨z + 1, 0, none⟩ = false ∧ W.cell? ⟨z + 1 + 1, 0, none⟩ = some (.bool false) ∧ W.frozen? ⟨z + 1 + 1, 0, none⟩ = false) ∧ Below w.heap.size w W)
        (fun c pre W => (c = .ret ∧ ∃ y : Int, W.cell? ⟨z + 1, 0, none⟩ = some (.int .i64 y) ∧ W.cell? ⟨z + 1 + 1, 0, none⟩ = some (.bool true) ∧ (pre = upto (fitem bs true i) pre.length → y = p ∧ q = true)) ∧ Below w.heap.size w W)
        (OwnFrom.and (Own.from (fun s A B row hs hg hr => ⟨hs.1, cell_kept hs.2.1 hg hr, cell_kept hs.2.2.1 hg hr, (frozen_kept hs.2.2.1 hg hr).trans hs.2.2.2.1, cell_kept hs.2.2.2.2.1 hg hr, (frozen_kept hs.2.2.2.2.1 hg hr).trans hs.2.2.2.2.2⟩) _) (ownFrom_below (Nat.le_refl _) x0.size))
        (fun c => OwnFrom.and (Own.from (fun s A B row hs hg hr => by obtain ⟨h1, y, h2, h3, h4⟩ := hs; exact ⟨h1, y, cell_kept h2 hg hr, cell_kept h3 hg hr, h4⟩) _) (ownFrom_below (Nat.le_refl _) x0.size))
        ⟨⟨fun _ j h1 h2 => absurd h2 (by simp; omega), K0.out, K1.out.1, K1.out.2, K2.out.1, K2.out.2⟩, x0⟩
        (fun x => { tmps := #[.pointer (some ⟨b, 0, none⟩), .int .i64 i, .bool true, .pointer (some ⟨z, 0, none⟩), undef, undef, .pointer (some ⟨z + 1, 0, none⟩), .pointer (some ⟨z + 1 + 1, 0, none⟩), .int .u64 (0 : Int), .int .i64 (x.1.1 : Int), .int .u64 (x.1.2 : Int), undef, .bool true, .int .i64 i, .int .i64 i, .pointer (some ⟨b, 0, none⟩), .int .i64 i, .bool true, .bool false, .pointer (some ⟨b, 0, none⟩), .int .i64 i, .int .u64 (0 : Int), .func (.func 104) #[] #[.pointer (some ⟨z + 1 + 1 + 1 + 1, 0, none⟩), .pointer (some ⟨z + 1 + 1 + 1, 0, none⟩), .pointer (some ⟨z + 1 + 1 + 1 + 1 + 1, 0, none⟩)], .int .i64 (x.1.1 : Int), .int .u64 (x.1.2 : Int), undef, undef, undef, undef, undef, undef, undef, undef, undef, undef, undef], defers := [] }) ?assign ?body ?done ?stop
      case assign =>
        intro l x W K hK
        simp only [encItem]
        gi_wp2
        exact hK
      case body =>
        rintro l pre x W ⟨⟨hpure, c0, c1, f1, c2, f2⟩, hB⟩ hlen
        obtain ⟨k, hk'⟩ : ∃ k, x.1.1 = k := ⟨_, rfl⟩
        obtain ⟨v, hv'⟩ : ∃ v, x.1.2 = v := ⟨_, rfl⟩
        have hk : k < 1024 := by rw [← hk']; exact x.2.1
        have HV : Hid (v < 18446744073709551616) := Lib.hid (by rw [← hv']; exact x.2.2)
        have IT := Lib.hid (fun e => item_step (bs := bs) (is := true) (i := i) (pre := pre) (x := x) hlen h65 e)
        have HP := Lib.hid hpure; have HB := Lib.hid hB
        simp only [hk', hv']
        rw [hk', hv'] at IT
        clear hpure hB hk' hv'
        have fin : v = 0 ∨ ((v : Int) == 0) = false := by
          by_cases e : v = 0
          · exact .inl e
          · exact .inr (by simp; omega)
        rcases fin with rfl | hvz
        · gi_wp2
          refine ⟨KeepsOthers.refl _, Below.refl _ _, ⟨fun e => ?_, c0, c1, f1, c2, f2⟩, HB.out⟩
          obtain ⟨e1, e2, e3⟩ := IT.out e
          rw [snoc_len]
          exact (HP.out e1).zero e3.symm
        · have hv0 : v ≠ 0 := by rintro rfl; simp at hvz
          obtain ⟨cz, hcz⟩ : ∃ cz, Lib.ctz 64 v = cz := ⟨_, rfl⟩
          have cl := (ctz_spec HV.out hv0).1
          rw [hcz] at cl
          have CZ := Lib.hid hcz
          clear hcz
          have t1 : IntKind.i64.wrap ((k : Int) * 64) = (k : Int) * 64 := IntWalk.i64_in _ (by omega)
          have t2 : IntKind.i64.wrap ((k : Int) * 64 + (cz : Int)) = (k : Int) * 64 + (cz : Int) := IntWalk.i64_in _ (by omega)
          obtain ⟨hb', hbd⟩ : ∃ r, decide (0 ≤ (k : Int) * 64 + (cz : Int) ∧ (k : Int) * 64 + (cz : Int) < bs.length) = r := ⟨_, rfl⟩
          have BD := Lib.hid hbd
          clear hbd
          have HIT := Lib.hid (fun e => (HP.out (IT.out e).1).hit (by rw [← (IT.out e).2.2]; exact hv0))
          cases hb'
          · have hge := of_decide_eq_false BD.out
            have HGE := Lib.hid hge
            clear hge
            gi_wp2_with (first | (refine ⟨trivial, ?_⟩; gi_at_call 89; refine (CallsIn.inRound l (callsIn_wide.2 (bits_TZ v HV.out hv0 (HT.out.ext HB.out)))).mono ?_; rw [CZ.out]; rintro e w' ⟨rfl, rfl⟩) | (refine ⟨trivial, ?_⟩; gi_at_call 69; refine (CallsIn.inRound l (callsIn_wide.2 (row_has bs false (H.out.ext HB.out) BD.out))).mono ?_; rintro e w' ⟨rfl, rfl⟩))
            refine ⟨KeepsOthers.refl _, Below.refl _ _, ⟨fun e => ?_, c0, c1, f1, c2, f2⟩, HB.out⟩
            rw [snoc_len]
            have h2 := (HIT.out e).2
            rw [← (IT.out e).2.2, CZ.out] at h2
            exact h2 (by have := HGE.out; have := (IT.out e).2.1; omega)
          · have hlt := of_decide_eq_true BD.out
            have HLT := Lib.hid hlt
            clear hlt
            gi_wp2_with (first | (refine ⟨trivial, ?_⟩; gi_at_call 89; refine (CallsIn.inRound l (callsIn_wide.2 (bits_TZ v HV.out hv0 (HT.out.ext HB.out)))).mono ?_; rw [CZ.out]; rintro e w' ⟨rfl, rfl⟩) | (refine ⟨trivial, ?_⟩; gi_at_call 69; refine (CallsIn.inRound l (callsIn_wide.2 (row_has bs true (H.out.ext HB.out) BD.out))).mono ?_; rintro e w' ⟨rfl, rfl⟩))
            have n12 : (⟨z + 1, 0, none⟩ : Addr) ≠ ⟨z + 1 + 1, 0, none⟩ := by intro e; have := congrArg Addr.block e; simp at this
            refine ⟨(KeepsOthers.setCell _ _ _).trans (KeepsOthers.setCell _ _ _), ⟨rfl, (k : Int) * 64 + (cz : Int), ?_, ?_, fun e => ?_⟩, (HB.out.setCell (p := ⟨z + 1, 0, none⟩) (by have := hz'.out; simp; omega) _).setCell (p := ⟨z + 1 + 1, 0, none⟩) (by have := hz'.out; simp; omega) _⟩
            · rw [World.cell?_setCell_other _ _ _ _ n12.symm]; exact World.cell?_setCell_same _ _ _ c1
            · exact World.cell?_setCell_same (u := .bool false) _ _ _ (by rw [World.cell?_setCell_other _ _ _ _ n12]; exact c2)
            · have h1 := (HIT.out e).1
              rw [← (IT.out e).2.2, CZ.out] at h1
              have := (h1 (by have := HLT.out; have := (IT.out e).2.1; omega)).same HN.out
              refine ⟨?_, this.2.symm⟩
              rw [← this.1, ← (IT.out e).2.1]
              omega
      case done =>
        rintro D ys W hD rfl ⟨⟨hpure, c0, c1, f1, c2, f2⟩, hB⟩ hK
        have n12 : (⟨z + 1, 0, none⟩ : Addr) ≠ ⟨z + 1 + 1, 0, none⟩ := by intro e; have := congrArg Addr.block e; simp at this
        have hno := hpure (by rw [upto_length])
        rw [upto_length] at hno
        have hend := (hno.none (by unfold wlen; omega)).same HN.out
        have EN := Lib.hid hend
        have HB := Lib.hid hB
        have HK := Lib.hid hK
        clear hpure hno hend hB hK
        gi_wp2
        have hK' := ((KeepsOthers.setCell W ⟨z + 1, 0, none⟩ (.int .i64 0)).trans (KeepsOthers.setCell _ ⟨z + 1 + 1, 0, none⟩ (.bool false))).same D _ HK.out rfl
        refine ⟨by simp, .inl ⟨_, _, rfl, run_takeDeferred hK', ?_⟩⟩
        have d1 : ((W.setCell ⟨z + 1, 0, none⟩ (.int .i64 0)).setCell ⟨z + 1 + 1, 0, none⟩ (.bool false)).cell? ⟨z + 1, 0, none⟩ = some (.int .i64 0) := by
          rw [World.cell?_setCell_other _ _ _ _ n12.symm]; exact World.cell?_setCell_same _ _ _ c1
        have d2 : ((W.setCell ⟨z + 1, 0, none⟩ (.int .i64 0)).setCell ⟨z + 1 + 1, 0, none⟩ (.bool false)).cell? ⟨z + 1 + 1, 0, none⟩ = some (.bool false) :=
          World.cell?_setCell_same (u := .bool false) _ _ _ (by rw [World.cell?_setCell_other _ _ _ _ n12]; exact c2)
        have e1 := cell_kept d1 (grownBy_putObj' _ D (.deferred none)) (fun r e => by cases e; exact ⟨_, hK', rfl⟩)
        have e2 := cell_kept d2 (grownBy_putObj' _ D (.deferred none)) (fun r e => by cases e; exact ⟨_, hK', rfl⟩)
        refine ⟨.tuple #[.int .i64 0, .bool false], ?_, by rw [← EN.out.1, ← EN.out.2], ((HB.out.setCell (p := ⟨z + 1, 0, none⟩) (by have := hz'.out; simp; omega) _).setCell (p := ⟨z + 1 + 1, 0, none⟩) (by have := hz'.out; simp; omega) _).trans (belowK_b (w := w) (Nat.le_refl _) _ D _ _ (Nat.le_trans x0.size hD) hK' rfl rfl)⟩
        simp [results, Tryd.f54, go_sem, e1, e2]
      case stop =>
        rintro D c pre W hD ⟨m, hm, rfl⟩ ⟨⟨rfl, y, c1, c2, hyq⟩, hB⟩ hK
        obtain ⟨rfl, rfl⟩ := hyq (by rw [upto_length])
        gi_wp2
        refine ⟨by simp, .inl ⟨_, _, rfl, run_takeDeferred hK, ?_⟩⟩
        have e1 := cell_kept c1 (grownBy_putObj' _ D (.deferred none)) (fun r e => by cases e; exact ⟨_, hK, rfl⟩)
        have e2 := cell_kept c2 (grownBy_putObj' _ D (.deferred none)) (fun r e => by cases e; exact ⟨_, hK, rfl⟩)
        refine ⟨.tuple #[.int .i64 y, .bool true], ?_, rfl, hB.trans (belowK_b (w := w) (Nat.le_refl _) W D _ _ (Nat.le_trans x0.size hD) hK rfl rfl)⟩
        simp [results, Tryd.f54, go_sem, e1, e2]

theorem row_Next {b g : Nat} {fm : Int} {is : Bool} (bs : List Bool) (p : Int) (q : Bool) {w : World} (h : RowAt w b g bs) (hT : Tab w) (hn : IsNext bs fm is p q) :
    Calls Tryd.prog 54 #[.pointer (some ⟨b, 0, none⟩), .int .i64 fm, .bool is] w fun e w' => e = .returned (.tuple #[.int .i64 p, .bool q]) ∧ Ext w w' := by
  by_cases hf : fm < 0
  · by_cases hl : bs.length = 0
    · have := hn.same (.inr ⟨rfl, rfl, fun j _ hj => absurd hj (by omega)⟩)
      rw [this.1, this.2]
      exact row_Next_out bs h (.inr hl)
    · exact row_Next_in bs p q h hT (by omega) (.inl ⟨hf, rfl⟩) (hn.neg (by omega))
  · obtain ⟨i, rfl⟩ := Int.eq_ofNat_of_zero_le (by omega : 0 ≤ fm)
    by_cases hi : i < bs.length
    · exact row_Next_in bs p q h hT hi (.inr rfl) hn
    · have := hn.same (.inr ⟨rfl, rfl, fun j hj hl => absurd hj (by omega)⟩)
      rw [this.1, this.2]
      exact row_Next_out bs h (.inl (by omega))

end Go.Proofs.YtlhajoamebfniaaDoor
