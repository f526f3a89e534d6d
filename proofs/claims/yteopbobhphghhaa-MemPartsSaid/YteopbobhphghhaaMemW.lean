/-
  mem's Load, Store, Zero, Words, All, Copy.
-/
import Derived.Test.YteopbobhphghhaaMemOn
import Derived.Test.YteopbobhphghhaaCloneW
import Derived.Test.YteopbobhphghhaaCloneI
import Derived.Lib.SliceRun
import Derived.Deep.RegionHeld3
import Derived.Deep.RegionWith
namespace Go.Proofs.Yteopbobhphghhaa
open Go.RowKit

theorem partErr_ok {c : Conf} {t a n : Int} (h : partErr c t a n = 0) : ∃ i j m : Nat, t = i ∧ a = j ∧ n = m ∧ i < c.ts.length ∧ j + m ≤ wordsN c i := by
  unfold partErr at h
  split at h
  · cases h
  · rename_i h1
    split at h
    · cases h
    · rename_i h2
      refine ⟨t.toNat, a.toNat, n.toNat, by omega, by omega, by omega, by omega, by omega⟩
theorem partErr_mk {c : Conf} {i j m : Nat} (hi : i < c.ts.length) (h : j + m ≤ wordsN c i) : partErr c i j m = 0 := by
  unfold partErr
  rw [if_neg (by omega), if_neg (by simp; omega)]
def is64 (a : Int) : Prop := -9223372036854775808 ≤ a ∧ a ≤ 9223372036854775807

/-! ### Load -/
def loadR (c : Conf) (ws : List Int) (t a : Int) : Int × Int := if partErr c t a 1 = 0 then (nth ws (baseN c t.toNat + a.toNat), 0) else (0, partErr c t a 1)
theorem enters_load1 : Enters Try.prog 49 := Enters.mk Try.func49 (by kernel_rfl) rfl

set_option maxHeartbeats 4000000 in
theorem mem_Load1 {b gw gb : Nat} {t a : Int} (v k : Int) {c : Conf} {ws : List Int} {w : World} (h : MemAt w b gw gb c ws) (ha : is64 a) (hr : loadR c ws t a = (v, k)) (pm pt pa pw : Nat)
    (c0 : w.cell? ⟨pm, 0, none⟩ = some (.pointer (some ⟨b, 0, none⟩))) (c1 : w.cell? ⟨pt, 0, none⟩ = some (.int .i64 t)) (c2 : w.cell? ⟨pa, 0, none⟩ = some (.int .i64 a)) (c3 : w.cell? ⟨pw, 0, none⟩ = some (.int .u64 0)) (f3 : w.frozen? ⟨pw, 0, none⟩ = false) :
    Calls Try.prog 49 #[.pointer (some ⟨pm, 0, none⟩), .pointer (some ⟨pt, 0, none⟩), .pointer (some ⟨pa, 0, none⟩), .pointer (some ⟨pw, 0, none⟩)] w
      fun e w' => within k e ∧ Chg (isB pw) w w' ∧ w'.cell? ⟨pw, 0, none⟩ = some (.int .u64 v) ∧ w'.frozen? ⟨pw, 0, none⟩ = false := by
  have H := Lib.hid h
  have HA := Lib.hid ha
  have C3 := Lib.hid c3; have F3 := Lib.hid f3
  unfold loadR at hr
  by_cases hp : partErr c t a 1 = 0
  · rw [if_pos hp] at hr
    cases hr
    obtain ⟨i, j, m, rfl, rfl, hm, hi, hj⟩ := partErr_ok hp
    have hin := h.ok.region_in hi
    have hl := h.len
    have hword := h.word (i := baseN c i + j) (by omega)
    have hm1 : m = 1 := by omega
    subst hm1
    have PP := Lib.hid (mem_part h hi hj (Nat.le_refl 1))
    have HW := Lib.hid hword
    clear h hp hin hl hi hj ha hm hword c3 f3
    simp only [Int.toNat_natCast]
    go_enter Try.func49, Try.ntmps49
    go_wp2_with fail
    refine PP.out.mono ?_
    rintro e w1 ⟨⟨cap, rfl, hc1, hc2⟩, x⟩
    have d3 := x.cell C3.out
    have g3 := x.frozenAt C3.out F3.out
    have hw := x.cell HW.out
    go_wp2_with fail
    go_end0
    exact ⟨.inl ⟨rfl, rfl⟩, Chg.setCell (P := isB pw) (Chg.of_ext x) (.inl (show isB pw pw from rfl)) _, World.cell?_setCell_same _ _ _ d3, by simpa using g3⟩
  · rw [if_neg hp] at hr
    cases hr
    have PP := Lib.hid (mem_part_no _ h rfl hp ha (show is64 1 from ⟨by omega, by omega⟩))
    have HP := Lib.hid hp
    clear h hp ha c3 f3
    go_enter Try.func49, Try.ntmps49
    go_wp2_with fail
    refine PP.out.mono ?_
    rintro e w1 ⟨rfl, x⟩
    have d3 := x.cell C3.out
    have g3 := x.frozenAt C3.out F3.out
    exact ⟨rfl, .inr ⟨HP.out, rfl⟩, Chg.of_ext x, d3, g3⟩

theorem box_new (w : World) (v : Value) (t : TypeId) {b : Nat} (hb : w.heap.size = b) : (w.alloc (.cells #[v] t)).cell? ⟨b, 0, none⟩ = some v ∧ (w.alloc (.cells #[v] t)).frozen? ⟨b, 0, none⟩ = false := by
  subst hb
  exact ⟨cell_new1 w v t, World.frozen?_alloc_at _ _ _ _ rfl⟩
theorem box_up {w w' : World} {p : Addr} {v : Value} (h : w.cell? p = some v ∧ w.frozen? p = false) (hx : Ext w w') : w'.cell? p = some v ∧ w'.frozen? p = false :=
  ⟨hx.cell h.1, hx.frozenAt h.1 h.2⟩
/-- Five boxes, one behind the other. -/
theorem five_boxes (w : World) (v0 v1 v2 v3 v4 : Value) (t0 t1 t2 t3 t4 : TypeId) {z : Nat} (hz : w.heap.size = z) {W : World} (hW : ((((w.alloc (.cells #[v0] t0)).alloc (.cells #[v1] t1)).alloc (.cells #[v2] t2)).alloc (.cells #[v3] t3)).alloc (.cells #[v4] t4) = W) :
    (W.cell? ⟨z, 0, none⟩ = some v0 ∧ W.frozen? ⟨z, 0, none⟩ = false) ∧ (W.cell? ⟨z + 1, 0, none⟩ = some v1 ∧ W.frozen? ⟨z + 1, 0, none⟩ = false) ∧ (W.cell? ⟨z + 1 + 1, 0, none⟩ = some v2 ∧ W.frozen? ⟨z + 1 + 1, 0, none⟩ = false) ∧
    (W.cell? ⟨z + 1 + 1 + 1, 0, none⟩ = some v3 ∧ W.frozen? ⟨z + 1 + 1 + 1, 0, none⟩ = false) ∧ (W.cell? ⟨z + 1 + 1 + 1 + 1, 0, none⟩ = some v4 ∧ W.frozen? ⟨z + 1 + 1 + 1 + 1, 0, none⟩ = false) ∧ Ext w W := by
  subst hz hW
  have x : ∀ (W : World) o, Ext W (W.alloc o) := fun W o => (Ext.refl W).alloc o
  refine ⟨?_, ?_, ?_, ?_, box_new _ _ _ (by simp), ((((x _ _).trans (x _ _)).trans (x _ _)).trans (x _ _)).trans (x _ _)⟩
  · exact box_up (box_new w v0 t0 rfl) ((((x _ _).trans (x _ _)).trans (x _ _)).trans (x _ _))
  · exact box_up (box_new _ v1 t1 (by simp)) (((x _ _).trans (x _ _)).trans (x _ _))
  · exact box_up (box_new _ v2 t2 (by simp)) ((x _ _).trans (x _ _))
  · exact box_up (box_new _ v3 t3 (by simp)) (x _ _)

set_option maxHeartbeats 4000000 in
theorem mem_Load {b gw gb : Nat} {t a : Int} (v k : Int) {c : Conf} {ws : List Int} {w : World} (h : MemAt w b gw gb c ws) (ha : is64 a) (hr : loadR c ws t a = (v, k)) :
    Calls Try.prog 15 #[.pointer (some ⟨b, 0, none⟩), .int .i64 t, .int .i64 a] w fun e w' => e = .returned (.tuple #[.int .u64 v, .int .i64 k]) ∧ Ext w w' := by
  have hmf : ∀ (fn : Fn) (first cap : Array Value) (w : World), (Instr.makeFunc fn first cap).run Try.prog w = .ok (.func fn first cap) w := fun _ _ _ _ => rfl
  obtain ⟨z, hz⟩ : ∃ z, w.heap.size = z := ⟨_, rfl⟩
  obtain ⟨⟨c0, _⟩, ⟨c1, _⟩, ⟨c2, _⟩, ⟨c3, f3⟩, _, hx⟩ := five_boxes w (.pointer (some ⟨b, 0, none⟩)) (.int .i64 t) (.int .i64 a) (.int .u64 0) (.int .i64 0) 30 3 3 34 31 hz rfl
  have L1 := Lib.hid (mem_on' (z := z + 1 + 1 + 1 + 1) (P := isB (z + 1 + 1 + 1)) (S := fun w' => w'.cell? ⟨z + 1 + 1 + 1, 0, none⟩ = some (.int .u64 v) ∧ w'.frozen? ⟨z + 1 + 1 + 1, 0, none⟩ = false) k enters_load1 (by simp [hz]) (by unfold isB; omega)
    (mem_Load1 v k (h.ext hx) ha hr z (z + 1) (z + 1 + 1) (z + 1 + 1 + 1) c0 c1 c2 c3 f3) (fun w' q => ⟨by rw [cell_far _ _ _ _ (by simp)]; exact q.1, by simpa using q.2⟩))
  have HZ := Lib.hid hz
  clear c0 c1 c2 c3 f3 hx h ha hr
  go_enter Try.func15, Try.ntmps15
  go_wp2_with fail
  refine L1.out.mono ?_
  rintro e w1 ⟨rfl, hc, c3, f3⟩
  go_wp2_with fail
  have d3 := World.cell?_setCell_same w1 ⟨z + 1 + 1 + 1, 0, none⟩ (.int .u64 v) c3
  refine bodyPost_ret (v := .tuple #[.int .u64 v, .int .i64 k]) (by simp [results, Try.results15, go_sem, d3]) rfl ⟨rfl, ?_⟩
  refine (Chg.setCell (P := isB (z + 1 + 1 + 1)) (p := ⟨z + 1 + 1 + 1, 0, none⟩) hc (.inl rfl) _).over ((((Ext.refl w).alloc _).alloc _).alloc _ |>.alloc _) (fun j hj => ?_)
  have := HZ.out
  unfold isB at hj
  omega

/-! ### Store -/
def storeR (c : Conf) (ws : List Int) (t a x : Int) : List Int × Int := if partErr c t a 1 = 0 then (ws.set (baseN c t.toNat + a.toNat) x, 0) else (ws, partErr c t a 1)
theorem storeR_len (c : Conf) (ws : List Int) (t a x : Int) : (storeR c ws t a x).1.length = ws.length := by
  unfold storeR; split <;> simp
theorem MemAt.set {w : World} {b gw gb i : Nat} {c : Conf} {ws : List Int} (h : MemAt w b gw gb c ws) (hi : i < ws.length) (x : Int) : MemAt (w.setCell ⟨gw, i, none⟩ (.int .u64 x)) b gw gb c (ws.set i x) := by
  obtain ⟨cap, h0, h1⟩ := h.words
  obtain ⟨cap', g0, g1⟩ := h.bases
  have n1 := h.ne; have n2 := h.nb
  refine ⟨h.ok, by rw [List.length_set]; exact h.len, ⟨cap, ?_, by rw [List.length_set]; exact h1⟩, ⟨cap', ?_, g1⟩, h.row.set hi x, fun t ht => ?_, fun o => by simpa using h.fz o, n1, n2⟩
  · rw [cell_far _ _ _ _ (by show gw ≠ b; omega), List.length_set]; exact h0
  · rw [cell_far _ _ _ _ (by show gw ≠ b; omega)]; exact g0
  · rw [cell_far _ _ _ _ (by show gw ≠ gb; omega)]; exact h.base t ht
theorem enters_store1 : Enters Try.prog 48 := Enters.mk Try.func48 (by kernel_rfl) rfl

set_option maxHeartbeats 4000000 in
theorem mem_Store1 {b gw gb : Nat} {t a x k : Int} {c : Conf} {ws ws' : List Int} {w : World} (h : MemAt w b gw gb c ws) (ha : is64 a) (hr : storeR c ws t a x = (ws', k)) (pw pm pt pa : Nat)
    (c0 : w.cell? ⟨pm, 0, none⟩ = some (.pointer (some ⟨b, 0, none⟩))) (c1 : w.cell? ⟨pt, 0, none⟩ = some (.int .i64 t)) (c2 : w.cell? ⟨pa, 0, none⟩ = some (.int .i64 a)) (c3 : w.cell? ⟨pw, 0, none⟩ = some (.int .u64 x)) (n0 : gw ≠ pm) (n1 : gw ≠ pt) (n2 : gw ≠ pa) (n3 : gw ≠ pw) :
    Calls Try.prog 48 #[.pointer (some ⟨pw, 0, none⟩), .pointer (some ⟨pm, 0, none⟩), .pointer (some ⟨pt, 0, none⟩), .pointer (some ⟨pa, 0, none⟩)] w
      fun e w' => within k e ∧ Chg (isB gw) w w' ∧ MemAt w' b gw gb c ws' := by
  have H := Lib.hid h
  have hd : Ext w w.drew := (Ext.refl w).drew
  unfold storeR at hr
  by_cases hp : partErr c t a 1 = 0
  · rw [if_pos hp] at hr
    cases hr
    obtain ⟨i, j, m, rfl, rfl, hm, hi, hj⟩ := partErr_ok hp
    have hin := h.ok.region_in hi
    have hl := h.len
    have hword := h.word (i := baseN c i + j) (by omega)
    have hbj := Lib.hid (show baseN c i + j < ws.length by omega)
    have hf := h.fz (baseN c i + j)
    have hm1 : m = 1 := by omega
    subst hm1
    have PP := Lib.hid (mem_part (h.ext hd) hi hj (Nat.le_refl 1))
    have HW := Lib.hid hword; have HF := Lib.hid hf
    clear h hp hin hl hi hj ha hm hword hf
    simp only [Int.toNat_natCast]
    go_enter Try.func48, Try.ntmps48
    go_wp2_with fail
    go_region_held3 (fun w' => w'.cell? ⟨pm, 0, none⟩ = some (.pointer (some ⟨b, 0, none⟩)) ∧ w'.cell? ⟨pt, 0, none⟩ = some (.int .i64 i) ∧ w'.cell? ⟨pa, 0, none⟩ = some (.int .i64 j) ∧ w'.cell? ⟨pw, 0, none⟩ = some (.int .u64 x))
      ((first | with_reducible exact ⟨hE.cell c0, hE.cell c1, hE.cell c2, hE.cell c3⟩ | exact ⟨(cell_far _ _ _ _ n0).trans (hE.cell c0), (cell_far _ _ _ _ n1).trans (hE.cell c1), (cell_far _ _ _ _ n2).trans (hE.cell c2), (cell_far _ _ _ _ n3).trans (hE.cell c3)⟩ | go_keep))
      ((go_at_call 47; refine PP.out.mono ?_; rintro e w1 ⟨⟨cap, rfl, hc1, hc2⟩, xx⟩; have hE := hd.trans xx; have hw := hE.cell HW.out; have hff := hE.frozenAt HW.out HF.out))
    go_end0
    exact ⟨.inl ⟨rfl, rfl⟩, Chg.setCell (P := isB gw) (p := ⟨gw, baseN c i + j, none⟩) (Chg.of_ext hE) (.inl rfl) _, (H.out.ext hE).set hbj.out x⟩
  · rw [if_neg hp] at hr
    cases hr
    have PP := Lib.hid (mem_part_no _ (h.ext hd) rfl hp ha (show is64 1 from ⟨by omega, by omega⟩))
    have HP := Lib.hid hp
    clear h hp ha
    go_enter Try.func48, Try.ntmps48
    go_wp2_with fail
    refine wp_region_held_drew (S := (fun w' => w'.cell? ⟨pm, 0, none⟩ = some (.pointer (some ⟨b, 0, none⟩)) ∧ w'.cell? ⟨pt, 0, none⟩ = some (.int .i64 t) ∧ w'.cell? ⟨pa, 0, none⟩ = some (.int .i64 a) ∧ w'.cell? ⟨pw, 0, none⟩ = some (.int .u64 x))) (by kernel_rfl) ?_ (fun hHeld => ?_)
    focus ((try dsimp only); go_keep)
    refine wpAnyH_take (i := 0) (v := ?_) rfl (by kernel_rfl) (by kernel_rfl) (by kernel_rfl) (fun _ _ _ h => h) (Or.inl ⟨by rfl, ?_⟩) (by assumption) ?_
    rotate_left
    focus (intro w hSw; (try dsimp only at hSw); go_simp; try with_reducible rfl)
    try simp only [Act.put, List.setIfInBounds_toArray, List.set_cons_zero, List.set_cons_succ]
    refine wpAnyH_take (i := 1) (v := ?_) rfl (by kernel_rfl) (by kernel_rfl) (by kernel_rfl) (fun _ _ _ h => h) (Or.inl ⟨by rfl, ?_⟩) (by assumption) ?_
    rotate_left
    focus (intro w hSw; (try dsimp only at hSw); go_simp; try with_reducible rfl)
    try simp only [Act.put, List.setIfInBounds_toArray, List.set_cons_zero, List.set_cons_succ]
    refine wpAnyH_take (i := 2) (v := ?_) rfl (by kernel_rfl) (by kernel_rfl) (by kernel_rfl) (fun _ _ _ h => h) (Or.inl ⟨by rfl, ?_⟩) (by assumption) ?_
    rotate_left
    focus (intro w hSw; (try dsimp only at hSw); go_simp; try with_reducible rfl)
    try simp only [Act.put, List.setIfInBounds_toArray, List.set_cons_zero, List.set_cons_succ]
    refine wpAnyH_take (i := 4) (v := ?_) rfl (by kernel_rfl) (by kernel_rfl) (by kernel_rfl) (fun _ _ _ h => h) (Or.inl ⟨by rfl, ?_⟩) (by assumption) ?_
    rotate_left
    focus (intro w hSw; (try dsimp only at hSw); go_simp; try with_reducible rfl)
    try simp only [Act.put, List.setIfInBounds_toArray, List.set_cons_zero, List.set_cons_succ]
    refine wpAnyH_ready (rs := [3]) (by kernel_rfl) (by simp) ?_
    refine AllReadyH.cons (i := 3) rfl (fun K hK => ?_) AllReadyH.nil
    go_simp
    go_at_call 47
    refine PP.out.mono ?_
    rintro e w1 ⟨rfl, xx⟩
    exact ⟨rfl, .inr ⟨HP.out, rfl⟩, Chg.of_ext (hd.trans xx), H.out.ext (hd.trans xx)⟩

theorem MemAt.near {w w' : World} {b gw gb : Nat} {c : Conf} {ws : List Int} (h : MemAt w b gw gb c ws) (hx : Ext w w') {z : Nat} (hz : w.heap.size ≤ z) (u : Value) : MemAt (w'.setCell ⟨z, 0, none⟩ u) b gw gb c ws := by
  have l := h.lt
  exact h.chg (P := isB z) (Chg.setCell (P := isB z) (p := ⟨z, 0, none⟩) (Chg.of_ext hx) (.inl rfl) u) (by unfold isB; omega) (by unfold isB; omega) (by unfold isB; omega)
theorem MemAt.far {w : World} {b gw gb z : Nat} {c : Conf} {ws : List Int} (h : MemAt w b gw gb c ws) (h0 : b ≠ z) (h1 : gw ≠ z) (h2 : gb ≠ z) (u : Value) : MemAt (w.setCell ⟨z, 0, none⟩ u) b gw gb c ws :=
  h.chg (P := isB z) (Chg.setCell (P := isB z) (p := ⟨z, 0, none⟩) (Chg.refl _ w) (.inl rfl) u) h0 h1 h2

set_option maxHeartbeats 4000000 in
theorem mem_Store {b gw gb : Nat} {t a x k : Int} {c : Conf} {ws ws' : List Int} {w : World} (h : MemAt w b gw gb c ws) (ha : is64 a) (hr : storeR c ws t a x = (ws', k)) :
    Calls Try.prog 14 #[.pointer (some ⟨b, 0, none⟩), .int .i64 t, .int .i64 a, .int .u64 x] w fun e w' => e = .returned (.int .i64 k) ∧ Chg (isB gw) w w' ∧ MemAt w' b gw gb c ws' := by
  have hmf : ∀ (fn : Fn) (first cap : Array Value) (w : World), (Instr.makeFunc fn first cap).run Try.prog w = .ok (.func fn first cap) w := fun _ _ _ _ => rfl
  obtain ⟨z, hz⟩ : ∃ z, w.heap.size = z := ⟨_, rfl⟩
  obtain ⟨⟨c0, _⟩, ⟨c1, _⟩, ⟨c2, _⟩, ⟨c3, f3⟩, _, hx⟩ := five_boxes w (.pointer (some ⟨b, 0, none⟩)) (.int .i64 t) (.int .i64 a) (.int .u64 x) (.int .i64 0) 30 3 3 34 31 hz rfl
  have l := h.lt
  obtain ⟨l0, l1, l2⟩ := l
  have L1 := Lib.hid (mem_on' (z := z + 1 + 1 + 1 + 1) (P := isB gw) (S := fun w' => MemAt w' b gw gb c ws') k enters_store1 (by simp [hz]) (by unfold isB; omega)
    (mem_Store1 (h.ext hx) ha hr (z + 1 + 1 + 1) z (z + 1) (z + 1 + 1) c0 c1 c2 c3 (by omega) (by omega) (by omega) (by omega)) (fun w' q => q.far (by omega) (by omega) (by omega) _))
  have HZ := Lib.hid hz
  clear c0 c1 c2 c3 f3 hx h ha hr
  go_enter Try.func14, Try.ntmps14
  go_wp2_with fail
  refine L1.out.mono ?_
  rintro e w1 ⟨rfl, hc, hm⟩
  go_wp2_with fail
  go_ret
  exact ⟨rfl, (((((Chg.refl (isB gw) w).alloc _).alloc _).alloc _).alloc _).trans hc, hm⟩

/-! ### Zero -/
def zeroR (c : Conf) (ws : List Int) (t a n : Int) : List Int × Int := if partErr c t a n = 0 then (zeroL ws (baseN c t.toNat + a.toNat) n.toNat, 0) else (ws, partErr c t a n)
theorem zeroL_none (ws : List Int) (a : Nat) : zeroL ws a 0 = ws := by unfold zeroL; simp
theorem MemAt.zero {w : World} {b gw gb i n : Nat} {c : Conf} {ws : List Int} (h : MemAt w b gw gb c ws) (hi : i + n ≤ ws.length) : MemAt (w.setCells gw i (List.replicate n (.int .u64 0))) b gw gb c (zeroL ws i n) := by
  obtain ⟨cap, h0, h1⟩ := h.words
  obtain ⟨cap', g0, g1⟩ := h.bases
  have n1 := h.ne; have n2 := h.nb
  have hl := zeroL_len hi
  have far : ∀ b' o u, b' ≠ gw → w.cell? ⟨b', o, none⟩ = some u → (w.setCells gw i (List.replicate n (.int .u64 0))).cell? ⟨b', o, none⟩ = some u := fun b' o u hb hc => by
    rw [World.cell?_setCells_out gw _ i w ⟨b', o, none⟩ (fun e => absurd e.symm (Ne.symm hb))]; exact hc
  refine ⟨h.ok, by rw [hl]; exact h.len, ⟨cap, by rw [hl]; exact far _ _ _ n1 h0, by rw [hl]; exact h1⟩, ⟨cap', far _ _ _ n1 g0, g1⟩, At.mk fun k hk => ?_, fun t ht => far _ _ _ n2 (h.base t ht), fun o => by rw [World.frozen?_setCells]; exact h.fz o, n1, n2⟩
  rw [hl] at hk
  rw [Nat.zero_add, nth_zeroL hi]
  by_cases hin : i ≤ k ∧ k < i + n
  · rw [if_pos hin]
    have := World.cell?_setCells_in gw (List.replicate n (.int .u64 0)) i w (fun j hj => by rw [List.length_replicate] at hj; rw [h.word (by omega)]; rfl) (k - i) (by simp; omega)
    rw [show i + (k - i) = k by omega] at this
    rw [this]; simp [show k - i < n by omega]
  · rw [if_neg hin, World.cell?_setCells_out gw _ i w ⟨gw, k, none⟩ (fun _ => by simp; omega)]
    exact h.word hk
theorem enters_zero1 : Enters Try.prog 46 := Enters.mk Try.func46 (by kernel_rfl) rfl

set_option maxHeartbeats 4000000 in
theorem mem_Zero1 {b gw gb : Nat} {t a n k : Int} {c : Conf} {ws ws' : List Int} {w : World} (h : MemAt w b gw gb c ws) (ha : is64 a) (hn : is64 n) (hr : zeroR c ws t a n = (ws', k)) (pm pt pa pn : Nat)
    (c0 : w.cell? ⟨pm, 0, none⟩ = some (.pointer (some ⟨b, 0, none⟩))) (c1 : w.cell? ⟨pt, 0, none⟩ = some (.int .i64 t)) (c2 : w.cell? ⟨pa, 0, none⟩ = some (.int .i64 a)) (c3 : w.cell? ⟨pn, 0, none⟩ = some (.int .i64 n)) :
    Calls Try.prog 46 #[.pointer (some ⟨pm, 0, none⟩), .pointer (some ⟨pt, 0, none⟩), .pointer (some ⟨pa, 0, none⟩), .pointer (some ⟨pn, 0, none⟩)] w
      fun e w' => within k e ∧ Chg (isB gw) w w' ∧ MemAt w' b gw gb c ws' := by
  have H := Lib.hid h
  unfold zeroR at hr
  by_cases hp : partErr c t a n = 0
  · rw [if_pos hp] at hr
    cases hr
    obtain ⟨i, j, m, rfl, rfl, rfl, hi, hj⟩ := partErr_ok hp
    simp only [Int.toNat_natCast]
    rcases Nat.eq_zero_or_pos m with hm | hm
    · subst hm
      have PP := Lib.hid (mem_part0 h hi (show j ≤ wordsN c i by omega))
      have hcl : ∀ ty p cap (w : World), (Builtin.clear_ #[38] ty #[.slice p 0 cap]).run Try.prog w = .ok (.tuple #[]) w := fun ty p cap w => by
        cases p <;> simp [Builtin.clear_, run_underlying Try.underlying38]
      rw [zeroL_none]
      clear h hp hi hj ha hn
      go_enter Try.func46, Try.ntmps46
      go_wp2_with fail
      refine PP.out.mono ?_
      rintro e w1 ⟨⟨p, cap, rfl⟩, x⟩
      go_wp2_with fail
      go_end0
      exact ⟨.inl ⟨rfl, rfl⟩, Chg.of_ext x, H.out.ext x⟩
    · have hin := h.ok.region_in hi
      have hl := h.len
      have PP := Lib.hid (mem_part h hi hj hm)
      have HB := Lib.hid (show baseN c i + j + m ≤ ws.length by omega)
      clear h hp hin hl hi hj ha hn
      go_enter Try.func46, Try.ntmps46
      go_wp2_with fail
      refine PP.out.mono ?_
      rintro e w1 ⟨⟨cap, rfl, hc1, hc2⟩, x⟩
      have H1 := Lib.hid (H.out.ext x)
      have hv : ∀ w, (zeroValue 34).run Try.prog w = .ok (.int .u64 0) w := fun w => by kernel_rfl
      have hcl : ∀ ty, (Builtin.clear_ #[38] ty #[.slice (some ⟨gw, baseN c i + j, none⟩) m cap]).run Try.prog w1 = .ok (.tuple #[]) (w1.setCells gw (baseN c i + j) (List.replicate m (.int .u64 0))) := fun ty =>
        Lib.run_clear_slice w1 _ 34 ty (.int .u64 0) Try.underlying38 hv rfl rfl gw (baseN c i + j) m cap hm (fun y hy => by rw [H1.out.word (by have := HB.out; omega)]; rfl) (fun y _ => H1.out.fz _)
      clear hv
      go_wp2_with fail
      go_end0
      exact ⟨.inl ⟨rfl, rfl⟩, Chg.setCells (P := isB gw) _ _ (Chg.of_ext x) rfl, H1.out.zero HB.out⟩
  · rw [if_neg hp] at hr
    cases hr
    have PP := Lib.hid (mem_part_no _ h rfl hp ha hn)
    have HP := Lib.hid hp
    clear h hp ha hn
    go_enter Try.func46, Try.ntmps46
    go_wp2_with fail
    refine PP.out.mono ?_
    rintro e w1 ⟨rfl, x⟩
    exact ⟨rfl, .inr ⟨HP.out, rfl⟩, Chg.of_ext x, H.out.ext x⟩

set_option maxHeartbeats 4000000 in
theorem mem_Zero {b gw gb : Nat} {t a n k : Int} {c : Conf} {ws ws' : List Int} {w : World} (h : MemAt w b gw gb c ws) (ha : is64 a) (hn : is64 n) (hr : zeroR c ws t a n = (ws', k)) :
    Calls Try.prog 13 #[.pointer (some ⟨b, 0, none⟩), .int .i64 t, .int .i64 a, .int .i64 n] w fun e w' => e = .returned (.int .i64 k) ∧ Chg (isB gw) w w' ∧ MemAt w' b gw gb c ws' := by
  have hmf : ∀ (fn : Fn) (first cap : Array Value) (w : World), (Instr.makeFunc fn first cap).run Try.prog w = .ok (.func fn first cap) w := fun _ _ _ _ => rfl
  obtain ⟨z, hz⟩ : ∃ z, w.heap.size = z := ⟨_, rfl⟩
  obtain ⟨⟨c0, _⟩, ⟨c1, _⟩, ⟨c2, _⟩, ⟨c3, f3⟩, _, hx⟩ := five_boxes w (.pointer (some ⟨b, 0, none⟩)) (.int .i64 t) (.int .i64 a) (.int .i64 n) (.int .i64 0) 30 3 3 3 31 hz rfl
  have l := h.lt
  obtain ⟨l0, l1, l2⟩ := l
  have L1 := Lib.hid (mem_on' (z := z + 1 + 1 + 1 + 1) (P := isB gw) (S := fun w' => MemAt w' b gw gb c ws') k enters_zero1 (by simp [hz]) (by unfold isB; omega)
    (mem_Zero1 (h.ext hx) ha hn hr z (z + 1) (z + 1 + 1) (z + 1 + 1 + 1) c0 c1 c2 c3) (fun w' q => q.far (by omega) (by omega) (by omega) _))
  have HZ := Lib.hid hz
  clear c0 c1 c2 c3 f3 hx h ha hn hr
  go_enter Try.func13, Try.ntmps13
  go_wp2_with fail
  refine L1.out.mono ?_
  rintro e w1 ⟨rfl, hc, hm⟩
  go_wp2_with fail
  go_ret
  exact ⟨rfl, (((((Chg.refl (isB gw) w).alloc _).alloc _).alloc _).alloc _).trans hc, hm⟩

/-! ### Words, All, Copy -/
theorem enters_mwords1 : Enters Try.prog 43 := Enters.mk Try.func43 (by kernel_rfl) rfl
/-- What Words tells: words of its own, or none. -/
def WordsAt (c : Conf) (ws : List Int) (t k : Int) (w w' : World) (sv : Value) : Prop :=
  (k = 0 ∧ ∃ a cap, sv = .slice a (regionL c ws t.toNat).length cap ∧ NewInts .u64 w w' a cap (regionL c ws t.toNat)) ∨ (k ≠ 0 ∧ sv = .slice none 0 0)
theorem WordsAt.mk {c : Conf} {ws : List Int} {i : Nat} {w w' : World} {a : Option Addr} {cap : Nat} (h : NewInts .u64 w w' a cap (regionL c ws i)) : WordsAt c ws i 0 w w' (.slice a (regionL c ws i).length cap) :=
  .inl ⟨rfl, a, cap, rfl, h⟩
theorem WordsAt.form {c : Conf} {ws : List Int} {t k : Int} {w w' : World} {sv : Value} (h : WordsAt c ws t k w w' sv) : ∃ a n cap, sv = .slice a n cap := by
  rcases h with ⟨_, a, cap, rfl, _⟩ | ⟨_, rfl⟩
  · exact ⟨_, _, _, rfl⟩
  · exact ⟨_, _, _, rfl⟩
theorem WordsAt.setCell {c : Conf} {ws : List Int} {t k : Int} {w w' : World} {sv : Value} (h : WordsAt c ws t k w w' sv) {p : Addr} (hp : p.block < w.heap.size) (u : Value) : WordsAt c ws t k w (w'.setCell p u) sv := by
  rcases h with ⟨h0, a, cap, rfl, hn⟩ | h
  · exact .inl ⟨h0, a, cap, rfl, hn.setCell hp u⟩
  · exact .inr h
theorem WordsAt.lower {c : Conf} {ws : List Int} {t k : Int} {w w0 w' : World} {sv : Value} (h : WordsAt c ws t k w0 w' sv) (hl : w.heap.size ≤ w0.heap.size) : WordsAt c ws t k w w' sv := by
  rcases h with ⟨h0, a, cap, rfl, hn⟩ | h
  · exact .inl ⟨h0, a, cap, rfl, hn.lower hl⟩
  · exact .inr h
theorem MemAt.regionAt {w : World} {b gw gb t : Nat} {c : Conf} {ws : List Int} (h : MemAt w b gw gb c ws) (ht : t < c.ts.length) : At .u64 w (some ⟨gw, baseN c t, none⟩) (regionL c ws t) := by
  refine At.mk fun i hi => ?_
  rw [regionL_len h.ok ht h.len] at hi
  have := h.ok.region_in ht
  rw [nth_regionL hi]
  exact h.word (by rw [h.len]; omega)

set_option maxHeartbeats 4000000 in
theorem mem_Words1 {b gw gb : Nat} {t k : Int} {c : Conf} {ws : List Int} {w : World} (h : MemAt w b gw gb c ws) (hr : regErr c t = k) (pm pt pl : Nat)
    (c0 : w.cell? ⟨pm, 0, none⟩ = some (.pointer (some ⟨b, 0, none⟩))) (c1 : w.cell? ⟨pt, 0, none⟩ = some (.int .i64 t)) (c2 : w.cell? ⟨pl, 0, none⟩ = some (.slice none 0 0)) (f2 : w.frozen? ⟨pl, 0, none⟩ = false) :
    Calls Try.prog 43 #[.pointer (some ⟨pm, 0, none⟩), .pointer (some ⟨pt, 0, none⟩), .pointer (some ⟨pl, 0, none⟩)] w
      fun e w' => within k e ∧ Chg (isB pl) w w' ∧ ∃ sv, w'.cell? ⟨pl, 0, none⟩ = some sv ∧ w'.frozen? ⟨pl, 0, none⟩ = false ∧ WordsAt c ws t k w w' sv := by
  have H := Lib.hid h
  have C2 := Lib.hid c2; have F2 := Lib.hid f2
  unfold regErr at hr
  by_cases hp : t < 0 ∨ (c.ts.length : Int) ≤ t
  · rw [if_pos hp] at hr
    subst hr
    have PP := Lib.hid (mem_region_no h hp)
    clear h hp c2 f2
    go_enter Try.func43, Try.ntmps43
    go_wp2_with fail
    refine PP.out.mono ?_
    rintro e w1 ⟨rfl, rfl⟩
    exact ⟨rfl, .inr ⟨by decide, rfl⟩, Chg.refl _ _, _, C2.out, F2.out, .inr ⟨by decide, rfl⟩⟩
  · rw [if_neg hp] at hr
    subst hr
    obtain ⟨i, rfl⟩ : ∃ i : Nat, t = i := ⟨t.toNat, by omega⟩
    have hi : i < c.ts.length := by omega
    have PP := Lib.hid (mem_region h hi)
    have hl := regionL_len h.ok hi h.len
    have hr := h.regionAt hi
    have hb : (regionL c ws i).length * 8 ≤ 140737488355328 := by
      have := h.ok.region_in hi; have := h.ok.total_le; omega
    have HL := Lib.hid hl; have HR := Lib.hid hr; have HB := Lib.hid hb
    clear h hp hl hr hb hi c2 f2
    go_enter Try.func43, Try.ntmps43
    go_wp2_with fail
    refine PP.out.mono ?_
    rintro e w1 ⟨⟨cap, rfl, hc1, hc2⟩, x⟩
    rw [← HL.out]
    go_wp2_with fail
    refine (clone_words (regionL c ws i) (HR.out.ext x) HB.out).mono ?_
    rintro e w2 ⟨a', c', rfl, hn, x2⟩
    have hE := x.trans x2
    have d2 := hE.cell C2.out
    have g2 := hE.frozenAt C2.out F2.out
    have lt2 : pl < w1.heap.size := cell_lt (x.cell C2.out)
    have HN := Lib.hid hn
    clear hn
    go_wp2_with fail
    go_end0
    exact ⟨.inl ⟨rfl, rfl⟩, Chg.setCell (P := isB pl) (p := ⟨pl, 0, none⟩) (Chg.of_ext hE) (.inl rfl) _, _, World.cell?_setCell_same _ _ _ d2, by simpa using g2, WordsAt.mk ((HN.out.setCell (p := ⟨pl, 0, none⟩) lt2 _).lower x.size)⟩

theorem three_boxes (w : World) (v0 v1 v2 v3 : Value) (t0 t1 t2 t3 : TypeId) {z : Nat} (hz : w.heap.size = z) {W : World} (hW : (((w.alloc (.cells #[v0] t0)).alloc (.cells #[v1] t1)).alloc (.cells #[v2] t2)).alloc (.cells #[v3] t3) = W) :
    (W.cell? ⟨z, 0, none⟩ = some v0 ∧ W.frozen? ⟨z, 0, none⟩ = false) ∧ (W.cell? ⟨z + 1, 0, none⟩ = some v1 ∧ W.frozen? ⟨z + 1, 0, none⟩ = false) ∧ (W.cell? ⟨z + 1 + 1, 0, none⟩ = some v2 ∧ W.frozen? ⟨z + 1 + 1, 0, none⟩ = false) ∧ Ext w W := by
  subst hz hW
  have x : ∀ (W : World) o, Ext W (W.alloc o) := fun W o => (Ext.refl W).alloc o
  refine ⟨?_, ?_, ?_, (((x _ _).trans (x _ _)).trans (x _ _)).trans (x _ _)⟩
  · exact box_up (box_new w v0 t0 rfl) (((x _ _).trans (x _ _)).trans (x _ _))
  · exact box_up (box_new _ v1 t1 (by simp)) ((x _ _).trans (x _ _))
  · exact box_up (box_new _ v2 t2 (by simp)) (x _ _)

set_option maxHeartbeats 4000000 in
theorem mem_Words {b gw gb : Nat} {t k : Int} {c : Conf} {ws : List Int} {w : World} (h : MemAt w b gw gb c ws) (hr : regErr c t = k) :
    Calls Try.prog 12 #[.pointer (some ⟨b, 0, none⟩), .int .i64 t] w fun e w' => ∃ sv, e = .returned (.tuple #[sv, .int .i64 k]) ∧ WordsAt c ws t k w w' sv ∧ Ext w w' := by
  have hmf : ∀ (fn : Fn) (first cap : Array Value) (w : World), (Instr.makeFunc fn first cap).run Try.prog w = .ok (.func fn first cap) w := fun _ _ _ _ => rfl
  obtain ⟨z, hz⟩ : ∃ z, w.heap.size = z := ⟨_, rfl⟩
  obtain ⟨⟨c0, _⟩, ⟨c1, _⟩, ⟨c2, f2⟩, hx⟩ := three_boxes w (.pointer (some ⟨b, 0, none⟩)) (.int .i64 t) (.slice none 0 0) (.int .i64 0) 30 3 38 31 hz rfl
  have L1 := Lib.hid (mem_on' (z := z + 1 + 1 + 1) (P := isB (z + 1 + 1)) (S := fun w' => ∃ sv, w'.cell? ⟨z + 1 + 1, 0, none⟩ = some sv ∧ w'.frozen? ⟨z + 1 + 1, 0, none⟩ = false ∧ WordsAt c ws t k ((((w.alloc (.cells #[.pointer (some ⟨b, 0, none⟩)] 30)).alloc (.cells #[.int .i64 t] 3)).alloc (.cells #[.slice none 0 0] 38)).alloc (.cells #[.int .i64 0] 31)) w' sv) k enters_mwords1 (by simp [hz]) (by unfold isB; omega)
    (mem_Words1 (h.ext hx) hr z (z + 1) (z + 1 + 1) c0 c1 c2 f2) (fun w' ⟨sv, q1, q2, q3⟩ => ⟨sv, by rw [cell_far _ _ _ _ (by simp)]; exact q1, by simpa using q2, q3.setCell (by simp [hz]) _⟩))
  have HZ := Lib.hid hz
  clear c0 c1 c2 f2 hx h hr
  go_enter Try.func12, Try.ntmps12
  go_wp2_with fail
  refine L1.out.mono ?_
  rintro e w1 ⟨rfl, hc, sv, c2, f2, hw⟩
  obtain ⟨a, n, cap, rfl⟩ := hw.form
  have HW := Lib.hid hw
  clear hw
  go_wp2_with fail
  have d2 := World.cell?_setCell_same w1 ⟨z + 1 + 1, 0, none⟩ (.slice a n cap) c2
  refine bodyPost_ret (v := .tuple #[.slice a n cap, .int .i64 k]) (by simp [results, Try.results12, go_sem, d2]) rfl ⟨.slice a n cap, rfl, (HW.out.setCell (p := ⟨z + 1 + 1, 0, none⟩) (by simp [HZ.out] <;> omega) _).lower (by simp <;> omega), ?_⟩
  refine (Chg.setCell (P := isB (z + 1 + 1)) (p := ⟨z + 1 + 1, 0, none⟩) hc (.inl rfl) _).over ((((Ext.refl w).alloc _).alloc _).alloc _) (fun j hj => ?_)
  have := HZ.out
  unfold isB at hj
  omega

set_option maxHeartbeats 4000000 in
theorem mem_All {b gw gb : Nat} {c : Conf} {ws : List Int} {w : World} (h : MemAt w b gw gb c ws) :
    Calls Try.prog 20 #[.pointer (some ⟨b, 0, none⟩)] w (ClonedInts .u64 ws w) := by
  obtain ⟨cap, h0, hc1, hc2⟩ := h.words
  have hb : ws.length * 8 ≤ 140737488355328 := by have := h.ok.total_le; have := h.len; omega
  have H := Lib.hid h; have HB := Lib.hid hb
  clear h hb
  go_enter Try.func20, Try.ntmps20
  go_wp2_with fail
  refine (mem_none H.out).mono ?_
  rintro e w1000 ⟨rfl, rfl⟩
  go_wp2_with fail
  refine (clone_words ws H.out.row HB.out).mono ?_
  rintro e w2 ⟨a', c', rfl, hn, x2⟩
  go_wp2_with fail
  go_ret
  exact ⟨a', c', rfl, hn, x2⟩

/-- A memory of its own, of the same words. -/
def MemNew (c : Conf) (ws : List Int) (w : World) (e : Ending) (w' : World) : Prop :=
  ∃ b gw gb, e = .returned (.pointer (some ⟨b, 0, none⟩)) ∧ MemAt w' b gw gb c ws ∧ w.heap.size ≤ b ∧ w.heap.size ≤ gw ∧ w.heap.size ≤ gb ∧ Ext w w'

end Go.Proofs.Yteopbobhphghhaa
