/-
  Merged texts: AllP, Body5, MemT, Body6, DPlanC, Made, MemX, MemN, Ref07.
-/
import Derived.Test.YtnbngcagnchkdaaDoorQ05
import Derived.Test.YtnbngcagnchkdaaDoorQ08
import Derived.Test.YtnbngcagnchkdaaDoorQ03
import Derived.Test.YtnbngcagnchkdaaDoorQ02
import Derived.Deep.OwnRows
import Derived.Laws.OwnMore
import Derived.Test.YtnbngcagnchkdaaDoorQ01
import Derived.Deep.RegionLaw
set_option linter.unusedVariables false
set_option linter.unusedSimpArgs false
/-! All fields of an object, in plain Lean: one by one, till one is refused. No program is named here. -/
namespace Go.Proofs.YtnbngcagnchkdaaDoor
open Go.RowKit

/-- One by one, till one is refused. -/
def oneR (F : Nat → Int × Int) : Nat → List Int × Int
  | 0 => ([], 0)
  | n + 1 => if (oneR F n).2 = 0 then (if (F n).2 = 0 then ((oneR F n).1 ++ [(F n).1], 0) else ([], (F n).2)) else ([], (oneR F n).2)
variable {F G : Nat → Int × Int} {n m : Nat} {ys : List Int} {v q : Int}
theorem oneR_step (h : oneR F n = (ys, 0)) (hv : F n = (v, 0)) : oneR F (n + 1) = (ys ++ [v], 0) := by
  show (if (oneR F n).2 = 0 then (if (F n).2 = 0 then ((oneR F n).1 ++ [(F n).1], 0) else ([], (F n).2)) else ([], (oneR F n).2)) = _
  rw [h, hv]; simp
theorem oneR_fail1 (h : oneR F n = (ys, 0)) (hv : F n = (v, q)) (hq : q ≠ 0) : oneR F (n + 1) = ([], q) := by
  show (if (oneR F n).2 = 0 then (if (F n).2 = 0 then ((oneR F n).1 ++ [(F n).1], 0) else ([], (F n).2)) else ([], (oneR F n).2)) = _
  rw [h, hv]; simp [hq]
theorem oneR_stay (h : oneR F n = ([], q)) (hq : q ≠ 0) : ∀ d, oneR F (n + d) = ([], q)
  | 0 => h
  | d + 1 => by
    show (if (oneR F (n + d)).2 = 0 then (if (F (n + d)).2 = 0 then ((oneR F (n + d)).1 ++ [(F (n + d)).1], 0) else ([], (F (n + d)).2)) else ([], (oneR F (n + d)).2)) = _
    rw [oneR_stay h hq d]; simp [hq]
theorem oneR_fail (h : oneR F n = (ys, 0)) (hv : F n = (v, q)) (hq : q ≠ 0) (hm : n < m) : oneR F m = ([], q) := by
  have := oneR_stay (oneR_fail1 h hv hq) hq (m - (n + 1))
  rwa [show n + 1 + (m - (n + 1)) = m by omega] at this
theorem oneR_len : ∀ n, (oneR F n).2 = 0 → (oneR F n).1.length = n
  | 0, _ => rfl
  | n + 1, h => by
    have e : oneR F (n + 1) = (if (oneR F n).2 = 0 then (if (F n).2 = 0 then ((oneR F n).1 ++ [(F n).1], 0) else ([], (F n).2)) else ([], (oneR F n).2)) := rfl
    by_cases h1 : (oneR F n).2 = 0
    · by_cases h2 : (F n).2 = 0
      · rw [e, if_pos h1, if_pos h2]; simp [oneR_len n h1]
      · rw [e, if_pos h1, if_neg h2] at h; exact absurd h h2
    · rw [e, if_neg h1] at h; exact absurd h h1
theorem oneR_nth : ∀ n, (oneR F n).2 = 0 → ∀ j, j < n → F j = (nth (oneR F n).1 j, 0)
  | 0, _, j, hj => absurd hj (Nat.not_lt_zero _)
  | n + 1, h, j, hj => by
    have e : oneR F (n + 1) = (if (oneR F n).2 = 0 then (if (F n).2 = 0 then ((oneR F n).1 ++ [(F n).1], 0) else ([], (F n).2)) else ([], (oneR F n).2)) := rfl
    by_cases h1 : (oneR F n).2 = 0
    · by_cases h2 : (F n).2 = 0
      · have l := oneR_len n h1
        rw [e, if_pos h1, if_pos h2]
        by_cases hj2 : j = n
        · subst hj2
          have : nth ((oneR F j).1 ++ [(F j).1]) j = (F j).1 := by
            unfold nth; simp [List.getD, l]
          rw [this, ← h2]
        · have hlt : j < n := by omega
          rw [oneR_nth n h1 j hlt]
          have : nth ((oneR F n).1 ++ [(F n).1]) j = nth (oneR F n).1 j := by
            unfold nth; simp [List.getD, List.getElem?_append, l, hlt]
          rw [this]
      · rw [e, if_pos h1, if_neg h2] at h; exact absurd h h2
    · rw [e, if_neg h1] at h; exact absurd h h1
theorem oneR_all : ∀ n, (∀ j, j < n → (F j).2 = 0) → (oneR F n).2 = 0
  | 0, _ => rfl
  | n + 1, h => by
    have h1 := oneR_all n fun j hj => h j (by omega)
    show (if (oneR F n).2 = 0 then (if (F n).2 = 0 then ((oneR F n).1 ++ [(F n).1], 0) else ([], (F n).2)) else ([], (oneR F n).2)).2 = 0
    rw [if_pos h1, if_pos (h n (by omega))]

variable {c : Conf} {t : Nat} {ws : List Int} {s : Int}
/-- All references, all words of an object. -/
def bRefs (c : Conf) (t : Nat) (ws : List Int) (s : Int) : List Int × Int :=
  if (bHead c t ws s).2 = 0 then oneR (fun j => bRef c t ws s j) (bHead c t ws s).1.r.toNat else ([], (bHead c t ws s).2)
def bWords (c : Conf) (t : Nat) (ws : List Int) (s : Int) : List Int × Int :=
  if (bHead c t ws s).2 = 0 then oneR (fun j => bWord c t ws s ((bHead c t ws s).1.r + j)) (bHead c t ws s).1.w.toNat else ([], (bHead c t ws s).2)

end Go.Proofs.YtnbngcagnchkdaaDoor

/-! body: all, Refs, Words. (Printed by wip/gen11a.py.) -/
namespace Go.Proofs.YtnbngcagnchkdaaDoor
open Go.RowKit
variable {w w' : World} {bb mb gw gb pb gp : Nat} {c : Conf} {t : Nat} {ws ws' : List Int} {s i k u x from_ : Int} {h : Hd} {xs : List Int} {m : Nat}

theorem enters_Ref : Enters Tryd.prog 9 := Enters.mk Tryd.func9 (by kernel_rfl) rfl
theorem enters_Word : Enters Tryd.prog 22 := Enters.mk Tryd.func22 (by kernel_rfl) rfl

set_option maxRecDepth 100000 in
set_option maxHeartbeats 8000000 in
theorem body_all_int {F : Nat → Int × Int} (h : BodyAt w bb mb gw gb pb gp c t ws) (hF : ∀ j, j < m → bRef c t ws s (from_ + j) = F j) (hf : 0 ≤ from_ ∧ from_ ≤ 100) (hm : m ≤ 100) (hr : oneR F m = (xs, k)) :
    Calls Tryd.prog 37 #[.int .i64 s, .int .i64 from_, .int .i64 m, .func (.func 9) #[.pointer (some ⟨bb, 0, none⟩)] #[]] w
      fun e w' => ∃ a cap, e = .returned (.tuple #[.slice a xs.length cap, .int .i64 k]) ∧ At .i64 w' a xs ∧ Ext w w' := by
  have hk := enters_Ref
  unfold Enters at hk
  obtain ⟨i0, hi0, hz0, hz1, hz2⟩ := info_parts info_int
  have H := Lib.hid h; have HF := Lib.hid hF; have HR := Lib.hid hr
  obtain ⟨B, hB⟩ : ∃ B, w.heap.size = B := ⟨_, rfl⟩
  have HB := Lib.hid hB
  clear h hF hr hB
  go_enter Tryd.func37, Tryd.ntmps37
  go_upto_region 3 with fail
  go_loopw [10, 15] (fun sv iv wr => ∃ (j : Nat) (ys : List Int), j ≤ m ∧ iv = .int .i64 j ∧ Hid (oneR F j = (ys, 0)) ∧ ys.length = j ∧ Hid (wr.ownsRow B 3 1 sv j (ncs .i64 ys)) ∧ Hid (Ext w wr)) (fun _ iv _ => m - (intOf iv).toNat)
  case atStart => exact ⟨0, [], Nat.zero_le _, rfl, Lib.hid rfl, rfl, Lib.hid (World.ownsRow_nil _ _ _ _), Lib.hid (Ext.refl _)⟩
  case round =>
    obtain ⟨j, ys, hj, rfl, HY, hl, HO, X⟩ := hrel
    have j0 : (0 : Int) ≤ (j : Int) := Int.natCast_nonneg _
    by_cases hlt : j < m
    · obtain ⟨v, q, hv⟩ : ∃ v q, F j = (v, q) := ⟨_, _, rfl⟩
      have HV := Lib.hid (show bRef c t ws s (from_ + j) = (v, q) by rw [HF.out j hlt]; exact hv)
      have wf : IntKind.i64.wrap (from_ + (j : Int)) = from_ + j := IntWalk.i64_in _ (by omega)
      have HN := Lib.hid hv
      clear hv
      go_wp2_with fail
      refine (body_Ref (H.out.ext X.out) HV.out).mono ?_
      rintro e w1 ⟨rfl, x1⟩
      replace X := Lib.hid (X.out.trans x1)
      replace HO := Lib.hid (own_ext HO.out x1)
      clear x1
      by_cases hq : q = 0
      · subst hq
        have BL := Lib.hid (show B ≤ w1.heap.size by have := X.out.size; have := HB.out; omega)
        go_wp2_with (at_builtin; refine wpList_append_own _ rfl (.tmp 30) (.tmp 32) 22 rfl B 3 i0 (.int .i64 0) 1 8 Tryd.underlying22 hi0 hz0 hz1 hz2 rfl (by decide) u10 j (ncs .i64 ys) rfl (own_ext HO.out ((Ext.refl w1).alloc _)) ⟨w1.heap.size, 0, none⟩ 1 1 [.int .i64 v] rfl rfl (news1 _ _ _) (one1 rfl) (by unfold maxLen; omega) (by omega) (by have := BL.out; simp; omega) ?_; intro v' w2 hown hgrow hnil; rw [ncs_snoc] at hown; have HO2 := Lib.hid hown; have X2 := Lib.hid ((X.out.alloc (.cells #[.int .i64 v] 3)).grown hgrow (fun k e => by have := (HO.out.lt k e).1; have := HB.out; omega)); clear hown hgrow hnil)
        go_roundw
        case rel => exact ⟨j + 1, ys ++ [v], by omega, by go_num, Lib.hid (oneR_step HY.out HN.out), by simp [hl], HO2, X2⟩
        case measure => simp [intOf]; omega
      · have tq : (q == 0) = false := by simpa using hq
        have hr := HR.out
        rw [oneR_fail HY.out HN.out hq hlt] at hr
        obtain ⟨rfl, rfl⟩ : [] = xs ∧ q = k := by injection hr with e1 e2; exact ⟨e1, e2⟩
        clear hr
        go_wp2_with fail
        go_ret2
        exact ⟨none, 0, rfl, (fun i hi => absurd hi (Nat.not_lt_zero _)), X.out⟩
    · have t1 : decide (j < m) = false := decide_eq_false hlt
      have t1' : decide ((j : Int) < (m : Int)) = false := decide_eq_false (by omega)
      have hr := HR.out
      rw [show m = j by omega, HY.out] at hr
      obtain ⟨rfl, rfl⟩ : ys = xs ∧ 0 = k := by injection hr with e1 e2; exact ⟨e1, e2⟩
      clear hr
      obtain ⟨a, cap, rfl, hn⟩ := newInts_of (by rw [HB.out, hl]; exact HO.out : wr.ownsRow w.heap.size 3 1 u10 ys.length (ncs .i64 ys))
      have N := Lib.hid hn.row
      have HL := Lib.hid hl
      clear hn HO hlt hl
      go_wp2_with fail
      go_ret2
      exact ⟨a, cap, by rw [HL.out]; rfl, N.out, X.out⟩

set_option maxRecDepth 100000 in
set_option maxHeartbeats 8000000 in
theorem body_all_words {F : Nat → Int × Int} (h : BodyAt w bb mb gw gb pb gp c t ws) (hF : ∀ j, j < m → bWord c t ws s (from_ + j) = F j) (hf : 0 ≤ from_ ∧ from_ ≤ 100) (hm : m ≤ 100) (hr : oneR F m = (xs, k)) :
    Calls Tryd.prog 36 #[.int .i64 s, .int .i64 from_, .int .i64 m, .func (.func 22) #[.pointer (some ⟨bb, 0, none⟩)] #[]] w
      fun e w' => ∃ a cap, e = .returned (.tuple #[.slice a xs.length cap, .int .i64 k]) ∧ At .u64 w' a xs ∧ Ext w w' := by
  have hk := enters_Word
  unfold Enters at hk
  obtain ⟨i0, hi0, hz0, hz1, hz2⟩ := info_parts info_w64
  have H := Lib.hid h; have HF := Lib.hid hF; have HR := Lib.hid hr
  obtain ⟨B, hB⟩ : ∃ B, w.heap.size = B := ⟨_, rfl⟩
  have HB := Lib.hid hB
  clear h hF hr hB
  go_enter Tryd.func36, Tryd.ntmps36
  go_upto_region 3 with fail
  go_loopw [10, 15] (fun sv iv wr => ∃ (j : Nat) (ys : List Int), j ≤ m ∧ iv = .int .i64 j ∧ Hid (oneR F j = (ys, 0)) ∧ ys.length = j ∧ Hid (wr.ownsRow B 26 1 sv j (ncs .u64 ys)) ∧ Hid (Ext w wr)) (fun _ iv _ => m - (intOf iv).toNat)
  case atStart => exact ⟨0, [], Nat.zero_le _, rfl, Lib.hid rfl, rfl, Lib.hid (World.ownsRow_nil _ _ _ _), Lib.hid (Ext.refl _)⟩
  case round =>
    obtain ⟨j, ys, hj, rfl, HY, hl, HO, X⟩ := hrel
    have j0 : (0 : Int) ≤ (j : Int) := Int.natCast_nonneg _
    by_cases hlt : j < m
    · obtain ⟨v, q, hv⟩ : ∃ v q, F j = (v, q) := ⟨_, _, rfl⟩
      have HV := Lib.hid (show bWord c t ws s (from_ + j) = (v, q) by rw [HF.out j hlt]; exact hv)
      have wf : IntKind.i64.wrap (from_ + (j : Int)) = from_ + j := IntWalk.i64_in _ (by omega)
      have HN := Lib.hid hv
      clear hv
      go_wp2_with fail
      refine (body_Word (H.out.ext X.out) HV.out).mono ?_
      rintro e w1 ⟨rfl, x1⟩
      replace X := Lib.hid (X.out.trans x1)
      replace HO := Lib.hid (own_ext HO.out x1)
      clear x1
      by_cases hq : q = 0
      · subst hq
        have BL := Lib.hid (show B ≤ w1.heap.size by have := X.out.size; have := HB.out; omega)
        go_wp2_with (at_builtin; refine wpList_append_own _ rfl (.tmp 30) (.tmp 32) 56 rfl B 26 i0 (.int .u64 0) 1 8 Tryd.underlying56 hi0 hz0 hz1 hz2 rfl (by decide) u10 j (ncs .u64 ys) rfl (own_ext HO.out ((Ext.refl w1).alloc _)) ⟨w1.heap.size, 0, none⟩ 1 1 [.int .u64 v] rfl rfl (news1 _ _ _) (one1 rfl) (by unfold maxLen; omega) (by omega) (by have := BL.out; simp; omega) ?_; intro v' w2 hown hgrow hnil; rw [ncs_snoc] at hown; have HO2 := Lib.hid hown; have X2 := Lib.hid ((X.out.alloc (.cells #[.int .u64 v] 26)).grown hgrow (fun k e => by have := (HO.out.lt k e).1; have := HB.out; omega)); clear hown hgrow hnil)
        go_roundw
        case rel => exact ⟨j + 1, ys ++ [v], by omega, by go_num, Lib.hid (oneR_step HY.out HN.out), by simp [hl], HO2, X2⟩
        case measure => simp [intOf]; omega
      · have tq : (q == 0) = false := by simpa using hq
        have hr := HR.out
        rw [oneR_fail HY.out HN.out hq hlt] at hr
        obtain ⟨rfl, rfl⟩ : [] = xs ∧ q = k := by injection hr with e1 e2; exact ⟨e1, e2⟩
        clear hr
        go_wp2_with fail
        go_ret2
        exact ⟨none, 0, rfl, (fun i hi => absurd hi (Nat.not_lt_zero _)), X.out⟩
    · have t1 : decide (j < m) = false := decide_eq_false hlt
      have t1' : decide ((j : Int) < (m : Int)) = false := decide_eq_false (by omega)
      have hr := HR.out
      rw [show m = j by omega, HY.out] at hr
      obtain ⟨rfl, rfl⟩ : ys = xs ∧ 0 = k := by injection hr with e1 e2; exact ⟨e1, e2⟩
      clear hr
      obtain ⟨a, cap, rfl, hn⟩ := newInts_of (by rw [HB.out, hl]; exact HO.out : wr.ownsRow w.heap.size 26 1 u10 ys.length (ncs .u64 ys))
      have N := Lib.hid hn.row
      have HL := Lib.hid hl
      clear hn HO hlt hl
      go_wp2_with fail
      go_ret2
      exact ⟨a, cap, by rw [HL.out]; rfl, N.out, X.out⟩

set_option maxHeartbeats 8000000 in
theorem body_Refs (h : BodyAt w bb mb gw gb pb gp c t ws) (hr : bRefs c t ws s = (xs, k)) :
    Calls Tryd.prog 11 #[.pointer (some ⟨bb, 0, none⟩), .int .i64 s] w
      fun e w' => ∃ a cap, e = .returned (.tuple #[.slice a xs.length cap, .int .i64 k]) ∧ At .i64 w' a xs ∧ Ext w w' := by
  have hmf : ∀ (fn : Fn) (first cap : Array Value) (w : World), (Instr.makeFunc fn first cap).run Tryd.prog w = .ok (.func fn first cap) w := fun _ _ _ _ => rfl
  have H := Lib.hid h
  have X := Lib.hid (Ext.refl w)
  unfold bRefs at hr
  obtain ⟨hd, q, hh⟩ : ∃ hd q, bHead c t ws s = (hd, q) := ⟨_, _, rfl⟩
  have HH := Lib.hid hh
  rw [hh] at hr
  clear h
  by_cases hq : q = 0
  · subst hq
    rw [if_pos rfl] at hr
    have ok : bLies c t s hd := by
      have := (bHead_ok (c := c) (t := t) (ws := ws) (s := s) (by rw [hh])).2.2.1
      rw [hh] at this; exact this
    obtain ⟨R, hR⟩ : ∃ R : Nat, hd.r = R := ⟨hd.r.toNat, by have := ok.1.2.1; omega⟩
    obtain ⟨M, hM⟩ : ∃ M : Nat, hd.w = M := ⟨hd.w.toNat, by have := ok.1.2.2.1; omega⟩
    have r63 : R ≤ 63 := by have := ok.1.2.2.2.1; omega
    have m63 : M ≤ 63 := by have := ok.1.2.2.2.2; omega
    obtain ⟨C, Rr, Ww⟩ := hd
    change Rr = (R : Int) at hR
    change Ww = (M : Int) at hM
    subst hR hM
    simp only [Int.toNat_natCast] at hr
    have HR := Lib.hid hr
    clear hh ok hr
    go_enter Tryd.func11, Tryd.ntmps11
    go_wp2_with fail
    refine (body_Head H.out HH.out).mono ?_
    rintro e w1 ⟨rfl, x1⟩
    replace H := Lib.hid (H.out.ext x1); replace X := Lib.hid (X.out.trans x1)
    clear x1
    go_upto_region 4 with fail
    obtain ⟨y, hy⟩ : ∃ y, w1.heap.size = y := ⟨_, rfl⟩
    obtain ⟨W2, hW2, hY, x2⟩ := hd3 ⟨C, (R : Int), (M : Int)⟩ w1 hy
    have Y := Lib.hid hY
    rw [hW2, hy]
    replace H := Lib.hid (H.out.ext x2); replace X := Lib.hid (X.out.trans x2)
    clear hW2 hy hY x2
    have y0 := Y.out.c 0 _ rfl; have y1 := Y.out.c 1 _ rfl; have y2 := Y.out.c 2 _ rfl
    have yl := Y.out.lt
    go_wp2_with fail
    clear y0 y1 y2 yl
    refine (body_all_int (from_ := 0) (m := R) H.out (fun j _ => by simp) (by omega) (by omega) HR.out).mono ?_
    rintro e w3 ⟨a, cap, rfl, hn, x3⟩
    have N := Lib.hid hn
    replace X := Lib.hid (X.out.trans x3)
    clear hn x3
    go_wp2_with fail
    go_ret2
    exact ⟨a, cap, rfl, N.out, X.out⟩
  · rw [if_neg (show ¬ (hd, q).2 = 0 from hq)] at hr
    obtain ⟨rfl, rfl⟩ : [] = xs ∧ q = k := by injection hr with e1 e2; exact ⟨e1, e2⟩
    clear hr hh
    go_enter Tryd.func11, Tryd.ntmps11
    go_wp2_with fail
    refine (body_Head H.out HH.out).mono ?_
    rintro e w1 ⟨rfl, x1⟩
    go_wp2_with fail
    go_ret2
    exact ⟨none, 0, rfl, (fun i hi => absurd hi (Nat.not_lt_zero _)), x1.alloc _⟩

set_option maxHeartbeats 8000000 in
theorem body_Words (h : BodyAt w bb mb gw gb pb gp c t ws) (hr : bWords c t ws s = (xs, k)) :
    Calls Tryd.prog 10 #[.pointer (some ⟨bb, 0, none⟩), .int .i64 s] w
      fun e w' => ∃ a cap, e = .returned (.tuple #[.slice a xs.length cap, .int .i64 k]) ∧ At .u64 w' a xs ∧ Ext w w' := by
  have hmf : ∀ (fn : Fn) (first cap : Array Value) (w : World), (Instr.makeFunc fn first cap).run Tryd.prog w = .ok (.func fn first cap) w := fun _ _ _ _ => rfl
  have H := Lib.hid h
  have X := Lib.hid (Ext.refl w)
  unfold bWords at hr
  obtain ⟨hd, q, hh⟩ : ∃ hd q, bHead c t ws s = (hd, q) := ⟨_, _, rfl⟩
  have HH := Lib.hid hh
  rw [hh] at hr
  clear h
  by_cases hq : q = 0
  · subst hq
    rw [if_pos rfl] at hr
    have ok : bLies c t s hd := by
      have := (bHead_ok (c := c) (t := t) (ws := ws) (s := s) (by rw [hh])).2.2.1
      rw [hh] at this; exact this
    obtain ⟨R, hR⟩ : ∃ R : Nat, hd.r = R := ⟨hd.r.toNat, by have := ok.1.2.1; omega⟩
    obtain ⟨M, hM⟩ : ∃ M : Nat, hd.w = M := ⟨hd.w.toNat, by have := ok.1.2.2.1; omega⟩
    have r63 : R ≤ 63 := by have := ok.1.2.2.2.1; omega
    have m63 : M ≤ 63 := by have := ok.1.2.2.2.2; omega
    obtain ⟨C, Rr, Ww⟩ := hd
    change Rr = (R : Int) at hR
    change Ww = (M : Int) at hM
    subst hR hM
    simp only [Int.toNat_natCast] at hr
    have HR := Lib.hid hr
    clear hh ok hr
    go_enter Tryd.func10, Tryd.ntmps10
    go_wp2_with fail
    refine (body_Head H.out HH.out).mono ?_
    rintro e w1 ⟨rfl, x1⟩
    replace H := Lib.hid (H.out.ext x1); replace X := Lib.hid (X.out.trans x1)
    clear x1
    go_upto_region 4 with fail
    obtain ⟨y, hy⟩ : ∃ y, w1.heap.size = y := ⟨_, rfl⟩
    obtain ⟨W2, hW2, hY, x2⟩ := hd3 ⟨C, (R : Int), (M : Int)⟩ w1 hy
    have Y := Lib.hid hY
    rw [hW2, hy]
    replace H := Lib.hid (H.out.ext x2); replace X := Lib.hid (X.out.trans x2)
    clear hW2 hy hY x2
    have y0 := Y.out.c 0 _ rfl; have y1 := Y.out.c 1 _ rfl; have y2 := Y.out.c 2 _ rfl
    have yl := Y.out.lt
    go_wp2_with fail
    clear y0 y1 y2 yl
    refine (body_all_words (from_ := (R : Int)) (m := M) H.out (fun j _ => rfl) (by omega) (by omega) HR.out).mono ?_
    rintro e w3 ⟨a, cap, rfl, hn, x3⟩
    have N := Lib.hid hn
    replace X := Lib.hid (X.out.trans x3)
    clear hn x3
    go_wp2_with fail
    go_ret2
    exact ⟨a, cap, rfl, N.out, X.out⟩
  · rw [if_neg (show ¬ (hd, q).2 = 0 from hq)] at hr
    obtain ⟨rfl, rfl⟩ : [] = xs ∧ q = k := by injection hr with e1 e2; exact ⟨e1, e2⟩
    clear hr hh
    go_enter Tryd.func10, Tryd.ntmps10
    go_wp2_with fail
    refine (body_Head H.out HH.out).mono ?_
    rintro e w1 ⟨rfl, x1⟩
    go_wp2_with fail
    go_ret2
    exact ⟨none, 0, rfl, (fun i hi => absurd hi (Nat.not_lt_zero _)), x1.alloc _⟩

end Go.Proofs.YtnbngcagnchkdaaDoor

/-! mem.Words: what it tells. -/
namespace Go.Proofs.YtnbngcagnchkdaaDoor
open Go.RowKit

theorem regErr_ok {c : Conf} {i : Nat} (h : i < c.ts.length) : regErr c i = 0 := by unfold regErr; rw [if_neg (by omega)]
theorem regErr_end (c : Conf) : regErr c ((c.ts.length : Nat) : Int) = 2 := by unfold regErr; rw [if_pos (by omega)]
theorem WordsAt.got {c : Conf} {ws : List Int} {i : Nat} {w w' : World} {sv : Value} (h : WordsAt c ws i 0 w w' sv) : ∃ a cap, sv = .slice a (regionL c ws i).length cap ∧ NewInts .u64 w w' a cap (regionL c ws i) := by
  rcases h with ⟨_, a, cap, rfl, hn⟩ | ⟨h, _⟩
  · exact ⟨a, cap, by rw [Int.toNat_natCast], by rwa [Int.toNat_natCast] at hn⟩
  · exact absurd rfl h
theorem WordsAt.none {c : Conf} {ws : List Int} {t k : Int} {w w' : World} {sv : Value} (h : WordsAt c ws t k w w' sv) (hk : k ≠ 0) : sv = .slice none 0 0 := by
  rcases h with ⟨h, _⟩ | ⟨_, h⟩
  · exact absurd h hk
  · exact h

end Go.Proofs.YtnbngcagnchkdaaDoor

/-! body: New. -/
namespace Go.Proofs.YtnbngcagnchkdaaDoor
open Go.RowKit
variable {w w' : World} {bb mb gw gb pb gp : Nat} {c : Conf} {t : Nat} {ws ws' : List Int} {s i k u x : Int}

set_option maxHeartbeats 4000000 in
theorem body_New (hm : MemAt w mb gw gb c ws) (hp : PlanAt w pb gp c t) (hw : Wid w) (ho : WOk ws) (hne : pb ≠ gw ∧ gp ≠ gw ∧ 0 ≠ gw) :
    Calls Tryd.prog 7 #[.pointer (some ⟨mb, 0, none⟩), .int .i64 t, .pointer (some ⟨pb, 0, none⟩)] w
      fun e w' => ∃ bb, e = .returned (.tuple #[.pointer (some ⟨bb, 0, none⟩), .int .i64 0]) ∧ BodyAt w' bb mb gw gb pb gp c t ws ∧ Ext w w' ∧ w.heap.size ≤ bb := by
  have HM := Lib.hid hm; have HP := Lib.hid hp; have HW := Lib.hid hw; have HO := Lib.hid ho; have NE := Lib.hid hne
  have RE := Lib.hid (regErr_ok hp.ti)
  have RL := regionL_len hp.ok hp.ti hm.len
  have HG := Lib.hid hm.lt.2.1
  have sp := hp.ok.nS_pos hp.ti; have se := hp.ok.nS_eq hp.ti
  obtain ⟨N, hN⟩ : ∃ N, nS c t = N := ⟨_, rfl⟩
  rw [hN] at sp se
  have SE := Lib.hid se.symm
  have tz : ((N : Int) == 0) = false := by simp; omega
  have tz' : (N == 0) = false := by simp; omega
  obtain ⟨M, hM⟩ : ∃ M, wordsN c t = M := ⟨_, rfl⟩
  have WE := Lib.hid (show sG c t c.cl.length * c.page = (M : Int) by rw [← hM]; exact (wordsN_page hp.ok hp.ti).symm)
  rw [hM] at RL
  have X := Lib.hid (Ext.refl w)
  clear hm hp hw ho hne se hN hM
  go_enter Tryd.func7, Tryd.ntmps7
  go_wp2_with fail
  refine (mem_Words HM.out RE.out).mono ?_
  rintro e w1 ⟨sv, rfl, hw, x1⟩
  obtain ⟨a, cp, rfl, _⟩ := hw.got
  rw [RL]
  replace X := Lib.hid (X.out.trans x1)
  clear hw x1
  go_wp2_with fail
  refine (slot_SlotsV (N : Int) SE.out (HP.out.ext X.out)).mono ?_
  rintro e w2 ⟨rfl, rfl⟩
  go_wp2_with fail
  refine (slot_WordsV (M : Int) WE.out (HP.out.ext X.out)).mono ?_
  rintro e w3 ⟨rfl, x3⟩
  replace X := Lib.hid (X.out.trans x3)
  clear x3
  have tm : ((M : Int) != (M : Int)) = false := by simp
  go_wp2_with fail
  go_ret2
  have xb := (Ext.refl w3).alloc (.cells #[.pointer (some ⟨mb, 0, none⟩), .int .i64 t, .pointer (some ⟨pb, 0, none⟩)] 51)
  have XX := X.out.trans xb
  have l3 := X.out.size
  refine ⟨w3.heap.size, rfl, ⟨BoxG.new w3 _ _ rfl, HM.out.ext XX, HP.out.ext XX, HW.out.ext XX, HO.out, ?_⟩, XX, l3⟩
  have := HG.out
  exact ⟨by omega, NE.out⟩

end Go.Proofs.YtnbngcagnchkdaaDoor

/-! The document's plan where some blocks change. -/
namespace Go.Proofs.YtnbngcagnchkdaaDoor
open Go.RowKit
variable {w w' : World} {lb fb mb t : Nat} {ca : Option Addr} {c : Conf}

theorem DPlan.at {Q : Nat → Prop} (h : DPlan w lb fb mb ca c t) (hx : Chg Q w w') (h1 : ¬ Q lb) (h2 : ¬ Q fb) (h3 : ¬ Q mb) (h4 : ∀ x o, ca = some ⟨x, o, none⟩ → ¬ Q x) : DPlan w' lb fb mb ca c t :=
  ⟨h.ok, h.ti, fun s hs j u hu => hx.cell h1 (h.l s hs j u hu), h.f.chg hx (fun b o e _ => by cases e; exact h2), h.m.chg hx (fun b o e _ => by cases e; exact h3), h.k.chg hx (fun b o e _ => h4 b o e)⟩
theorem DPlan.lt (h : DPlan w lb fb mb ca c t) : lb < w.heap.size ∧ fb < w.heap.size ∧ mb < w.heap.size ∧ (∀ x o, ca = some ⟨x, o, none⟩ → x < w.heap.size) := by
  have hs := h.ok.nS_pos h.ti
  have hg := h.ok.nG_pos h.ti
  refine ⟨cell_lt (h.l 0 (by omega) 0 _ rfl), ?_, ?_, fun x o e => ?_⟩
  · obtain ⟨b, o, e, hc⟩ := h.f 0 (by simp [firsts]; omega)
    cases e; exact cell_lt hc
  · obtain ⟨b, o, e, hc⟩ := h.m 0 (by simp [manys]; omega)
    cases e; exact cell_lt hc
  · obtain ⟨b, o', e', hc⟩ := h.k 0 h.ok.cl.pos
    rw [e] at e'; cases e'; exact cell_lt hc

end Go.Proofs.YtnbngcagnchkdaaDoor

/-! A row that 'make' lays. No program is named here. -/
namespace Go.Proofs.YtnbngcagnchkdaaDoor
open Go.RowKit

theorem made_at {z : Value} {n i : Nat} (h : i < n) : (madeCells #[z] n)[i]? = some z := by
  have e := toList_madeCells_one z n
  rw [← Array.getElem?_toList, e]
  simp [h]

end Go.Proofs.YtnbngcagnchkdaaDoor

/-! mem: a memory that is none; Copy; New. -/
namespace Go.Proofs.YtnbngcagnchkdaaDoor
open Go.RowKit

/-! ### A memory that is none -/
def NoMem (w : World) (p : Option Addr) : Prop := p = none ∨ ∃ b, p = some ⟨b, 0, none⟩ ∧ MemZ w b
theorem NoMem.ext {w w' : World} {p : Option Addr} (h : NoMem w p) (hx : Ext w w') : NoMem w' p := by
  rcases h with h | ⟨b, h, h0, h1⟩
  · exact .inl h
  · exact .inr ⟨b, h, hx.cell h0, hx.cell h1⟩
theorem mem_none_no {p : Option Addr} {w : World} (h : NoMem w p) : Calls Tryd.prog 81 #[.pointer p] w fun e w' => e = .returned (.bool true) ∧ w = w' := by
  rcases h with rfl | ⟨b, rfl, h⟩
  · exact mem_none_nil
  · exact mem_none_zero h
set_option maxHeartbeats 1000000 in
theorem mem_region_nil {p : Option Addr} {t : Int} {w : World} (h : NoMem w p) : Calls Tryd.prog 54 #[.pointer p, .int .i64 t] w fun e w' => e = gaveUp 1 ∧ w = w' := by
  have H := Lib.hid h
  clear h
  go_enter Tryd.func54, Tryd.ntmps54
  go_wp2_with fail
  refine (mem_none_no H.out).mono ?_
  rintro e w1000 ⟨rfl, rfl⟩
  go_wp2_with fail
  exact ⟨rfl, rfl, rfl⟩
set_option maxHeartbeats 1000000 in
theorem mem_part_nil {p : Option Addr} {t a n : Int} {w : World} (h : NoMem w p) : Calls Tryd.prog 60 #[.pointer p, .int .i64 t, .int .i64 a, .int .i64 n] w fun e w' => e = gaveUp 1 ∧ w = w' := by
  have H := Lib.hid h
  clear h
  go_enter Tryd.func60, Tryd.ntmps60
  go_wp2_with fail
  refine (mem_region_nil H.out).mono ?_
  rintro e w1 ⟨rfl, rfl⟩
  exact ⟨rfl, rfl, rfl⟩

set_option maxHeartbeats 4000000 in
theorem mem_Load_nil {p : Option Addr} {t a : Int} {w : World} (h : NoMem w p) :
    Calls Tryd.prog 32 #[.pointer p, .int .i64 t, .int .i64 a] w fun e w' => e = .returned (.tuple #[.int .u64 0, .int .i64 1]) ∧ Ext w w' := by
  have hmf : ∀ (fn : Fn) (first cap : Array Value) (w : World), (Instr.makeFunc fn first cap).run Tryd.prog w = .ok (.func fn first cap) w := fun _ _ _ _ => rfl
  obtain ⟨z, hz⟩ : ∃ z, w.heap.size = z := ⟨_, rfl⟩
  obtain ⟨⟨c0, _⟩, ⟨c1, _⟩, ⟨c2, _⟩, ⟨c3, f3⟩, _, hx⟩ := five_boxes w (.pointer p) (.int .i64 t) (.int .i64 a) (.int .u64 0) (.int .i64 0) 32 3 3 26 45 hz rfl
  have HP := Lib.hid (h.ext hx)
  have X1 : ∀ W : World, Hid (NoMem W p) → W.cell? ⟨z, 0, none⟩ = some (.pointer p) → W.cell? ⟨z + 1, 0, none⟩ = some (.int .i64 t) → W.cell? ⟨z + 1 + 1, 0, none⟩ = some (.int .i64 a) → W.cell? ⟨z + 1 + 1 + 1, 0, none⟩ = some (.int .u64 0) → W.frozen? ⟨z + 1 + 1 + 1, 0, none⟩ = false →
      Calls Tryd.prog 59 #[.pointer (some ⟨z, 0, none⟩), .pointer (some ⟨z + 1, 0, none⟩), .pointer (some ⟨z + 1 + 1, 0, none⟩), .pointer (some ⟨z + 1 + 1 + 1, 0, none⟩)] W fun e w' => within 1 e ∧ Chg (isB (z + 1 + 1 + 1)) W w' ∧ w'.cell? ⟨z + 1 + 1 + 1, 0, none⟩ = some (.int .u64 0) ∧ w'.frozen? ⟨z + 1 + 1 + 1, 0, none⟩ = false := by
    intro W HW d0 d1 d2 d3 g3
    go_enter Tryd.func59, Tryd.ntmps59
    go_wp2_with fail
    refine (mem_part_nil HW.out).mono ?_
    rintro e w1 ⟨rfl, rfl⟩
    exact ⟨rfl, .inr ⟨by decide, rfl⟩, Chg.refl _ _, d3, g3⟩
  have L1 := Lib.hid (mem_on' (z := z + 1 + 1 + 1 + 1) (P := isB (z + 1 + 1 + 1)) (S := fun w' => w'.cell? ⟨z + 1 + 1 + 1, 0, none⟩ = some (.int .u64 0) ∧ w'.frozen? ⟨z + 1 + 1 + 1, 0, none⟩ = false) 1 enters_load1 (by simp [hz]) (by unfold isB; omega)
    (X1 _ HP c0 c1 c2 c3 f3) (fun w' q => ⟨by rw [cell_far _ _ _ _ (by simp)]; exact q.1, by simpa using q.2⟩))
  have HZ := Lib.hid hz
  clear c0 c1 c2 c3 f3 hx h X1 HP
  go_enter Tryd.func32, Tryd.ntmps32
  go_wp2_with fail
  refine L1.out.mono ?_
  rintro e w1 ⟨rfl, hc, c3, f3⟩
  go_wp2_with fail
  have d3 := World.cell?_setCell_same w1 ⟨z + 1 + 1 + 1, 0, none⟩ (.int .u64 0) c3
  refine bodyPost_ret (v := .tuple #[.int .u64 0, .int .i64 1]) (by simp [results, Tryd.results32, go_sem, d3]) rfl ⟨rfl, ?_⟩
  refine (Chg.setCell (P := isB (z + 1 + 1 + 1)) (p := ⟨z + 1 + 1 + 1, 0, none⟩) hc (.inl rfl) _).over ((((Ext.refl w).alloc _).alloc _).alloc _ |>.alloc _) (fun j hj => ?_)
  have := HZ.out
  unfold isB at hj
  omega

set_option maxHeartbeats 4000000 in
theorem mem_Store_nil {p : Option Addr} {t a x : Int} {w : World} (h : NoMem w p) :
    Calls Tryd.prog 40 #[.pointer p, .int .i64 t, .int .i64 a, .int .u64 x] w fun e w' => e = .returned (.int .i64 1) ∧ Ext w w' := by
  have hmf : ∀ (fn : Fn) (first cap : Array Value) (w : World), (Instr.makeFunc fn first cap).run Tryd.prog w = .ok (.func fn first cap) w := fun _ _ _ _ => rfl
  obtain ⟨z, hz⟩ : ∃ z, w.heap.size = z := ⟨_, rfl⟩
  obtain ⟨⟨c0, _⟩, ⟨c1, _⟩, ⟨c2, _⟩, ⟨c3, _⟩, _, hx⟩ := five_boxes w (.pointer p) (.int .i64 t) (.int .i64 a) (.int .u64 x) (.int .i64 0) 32 3 3 26 45 hz rfl
  have HP := Lib.hid (h.ext hx)
  have X1 : ∀ W : World, Hid (NoMem W p) → W.cell? ⟨z, 0, none⟩ = some (.pointer p) → W.cell? ⟨z + 1, 0, none⟩ = some (.int .i64 t) → W.cell? ⟨z + 1 + 1, 0, none⟩ = some (.int .i64 a) → W.cell? ⟨z + 1 + 1 + 1, 0, none⟩ = some (.int .u64 x) →
      Calls Tryd.prog 69 #[.pointer (some ⟨z + 1 + 1 + 1, 0, none⟩), .pointer (some ⟨z, 0, none⟩), .pointer (some ⟨z + 1, 0, none⟩), .pointer (some ⟨z + 1 + 1, 0, none⟩)] W fun e w' => within 1 e ∧ Chg (fun _ => False) W w' ∧ True := by
    intro W HW d0 d1 d2 d3
    go_enter Tryd.func69, Tryd.ntmps69
    go_wp2_with fail
    refine wp_region_held_drew (S := (fun w' => w'.cell? ⟨z, 0, none⟩ = some (.pointer p) ∧ w'.cell? ⟨z + 1, 0, none⟩ = some (.int .i64 t) ∧ w'.cell? ⟨z + 1 + 1, 0, none⟩ = some (.int .i64 a) ∧ w'.cell? ⟨z + 1 + 1 + 1, 0, none⟩ = some (.int .u64 x))) (by kernel_rfl) ?_ (fun hHeld => ?_)
    focus ((try dsimp only); go_keep)
    refine wpAnyH_take (i := 0) (v := ?_) rfl (by kernel_rfl) (by kernel_rfl) (by kernel_rfl) (fun _ _ _ h => h) (Or.inl ⟨by rfl, ?_⟩) (by assumption) ?_
    rotate_left
    focus (intro w hSw; (try dsimp only at hSw); go_simp; try with_reducible rfl)
    try simp only [Act.put, List.setIfInBounds_toArray, List.set_cons_zero, List.set_cons_succ]
    refine wpAnyH_take (i := 1) (v := ?_) rfl (by kernel_rfl) (by kernel_rfl) (by kernel_rfl) (fun _ _ _ h => h) (Or.inl ⟨by rfl, ?_⟩) (by assumption) ?_
    rotate_left
    focus (intro w hSw; (try dsimp only at hSw); go_simp; try with_reducible rfl)
    try simp only [Act.put, List.setIfInBounds_toArray, List.set_cons_zero, List.set_cons_succ]
    refine wpAnyH_take (i := 2) (v := ?_) rfl (by kernel_rfl) (by kernel_rfl) (by kernel_rfl) (fun _ _ _ h => h) (Or.inl ⟨by rfl, ?_⟩) (by assumption) ?_
    rotate_left
    focus (intro w hSw; (try dsimp only at hSw); go_simp; try with_reducible rfl)
    try simp only [Act.put, List.setIfInBounds_toArray, List.set_cons_zero, List.set_cons_succ]
    refine wpAnyH_take (i := 4) (v := ?_) rfl (by kernel_rfl) (by kernel_rfl) (by kernel_rfl) (fun _ _ _ h => h) (Or.inl ⟨by rfl, ?_⟩) (by assumption) ?_
    rotate_left
    focus (intro w hSw; (try dsimp only at hSw); go_simp; try with_reducible rfl)
    try simp only [Act.put, List.setIfInBounds_toArray, List.set_cons_zero, List.set_cons_succ]
    refine wpAnyH_ready (rs := [3]) (by kernel_rfl) (by simp) ?_
    refine AllReadyH.cons (i := 3) rfl (fun K hK => ?_) AllReadyH.nil
    go_simp
    go_at_call 60
    refine (mem_part_nil (HW.out.ext (Ext.refl W).drew)).mono ?_
    rintro e w1 ⟨rfl, rfl⟩
    exact ⟨rfl, .inr ⟨by decide, rfl⟩, (Chg.refl _ _).drew, trivial⟩
  have L1 := Lib.hid (mem_on' (z := z + 1 + 1 + 1 + 1) (P := fun _ => False) (S := fun _ => True) 1 enters_store1 (by simp [hz]) (fun a => a) (X1 _ HP c0 c1 c2 c3) (fun _ _ => trivial))
  clear c0 c1 c2 c3 hx h X1 HP
  go_enter Tryd.func40, Tryd.ntmps40
  go_wp2_with fail
  refine L1.out.mono ?_
  rintro e w1 ⟨rfl, hc, _⟩
  go_wp2_with fail
  go_ret
  exact ⟨rfl, ((((Ext.refl w).alloc _).alloc _).alloc _ |>.alloc _).trans hc.ext⟩

set_option maxHeartbeats 4000000 in
theorem mem_Zero_nil {p : Option Addr} {t a n : Int} {w : World} (h : NoMem w p) :
    Calls Tryd.prog 39 #[.pointer p, .int .i64 t, .int .i64 a, .int .i64 n] w fun e w' => e = .returned (.int .i64 1) ∧ Ext w w' := by
  have hmf : ∀ (fn : Fn) (first cap : Array Value) (w : World), (Instr.makeFunc fn first cap).run Tryd.prog w = .ok (.func fn first cap) w := fun _ _ _ _ => rfl
  obtain ⟨z, hz⟩ : ∃ z, w.heap.size = z := ⟨_, rfl⟩
  obtain ⟨⟨c0, _⟩, ⟨c1, _⟩, ⟨c2, _⟩, ⟨c3, _⟩, _, hx⟩ := five_boxes w (.pointer p) (.int .i64 t) (.int .i64 a) (.int .i64 n) (.int .i64 0) 32 3 3 3 45 hz rfl
  have HP := Lib.hid (h.ext hx)
  have X1 : ∀ W : World, Hid (NoMem W p) → W.cell? ⟨z, 0, none⟩ = some (.pointer p) → W.cell? ⟨z + 1, 0, none⟩ = some (.int .i64 t) → W.cell? ⟨z + 1 + 1, 0, none⟩ = some (.int .i64 a) → W.cell? ⟨z + 1 + 1 + 1, 0, none⟩ = some (.int .i64 n) →
      Calls Tryd.prog 68 #[.pointer (some ⟨z, 0, none⟩), .pointer (some ⟨z + 1, 0, none⟩), .pointer (some ⟨z + 1 + 1, 0, none⟩), .pointer (some ⟨z + 1 + 1 + 1, 0, none⟩)] W fun e w' => within 1 e ∧ Chg (fun _ => False) W w' ∧ True := by
    intro W HW d0 d1 d2 d3
    go_enter Tryd.func68, Tryd.ntmps68
    go_wp2_with fail
    refine (mem_part_nil HW.out).mono ?_
    rintro e w1 ⟨rfl, rfl⟩
    exact ⟨rfl, .inr ⟨by decide, rfl⟩, Chg.refl _ _, trivial⟩
  have L1 := Lib.hid (mem_on' (z := z + 1 + 1 + 1 + 1) (P := fun _ => False) (S := fun _ => True) 1 enters_zero1 (by simp [hz]) (fun a => a) (X1 _ HP c0 c1 c2 c3) (fun _ _ => trivial))
  clear c0 c1 c2 c3 hx h X1 HP
  go_enter Tryd.func39, Tryd.ntmps39
  go_wp2_with fail
  refine L1.out.mono ?_
  rintro e w1 ⟨rfl, hc, _⟩
  go_wp2_with fail
  go_ret
  exact ⟨rfl, ((((Ext.refl w).alloc _).alloc _).alloc _ |>.alloc _).trans hc.ext⟩

set_option maxHeartbeats 4000000 in
theorem mem_Words_nil {p : Option Addr} {t : Int} {w : World} (h : NoMem w p) :
    Calls Tryd.prog 28 #[.pointer p, .int .i64 t] w fun e w' => e = .returned (.tuple #[.slice none 0 0, .int .i64 1]) ∧ Ext w w' := by
  have hmf : ∀ (fn : Fn) (first cap : Array Value) (w : World), (Instr.makeFunc fn first cap).run Tryd.prog w = .ok (.func fn first cap) w := fun _ _ _ _ => rfl
  obtain ⟨z, hz⟩ : ∃ z, w.heap.size = z := ⟨_, rfl⟩
  obtain ⟨⟨c0, _⟩, ⟨c1, _⟩, ⟨c2, f2⟩, hx⟩ := three_boxes w (.pointer p) (.int .i64 t) (.slice none 0 0) (.int .i64 0) 32 3 56 45 hz rfl
  have HP := Lib.hid (h.ext hx)
  have X1 : ∀ W : World, Hid (NoMem W p) → W.cell? ⟨z, 0, none⟩ = some (.pointer p) → W.cell? ⟨z + 1, 0, none⟩ = some (.int .i64 t) → W.cell? ⟨z + 1 + 1, 0, none⟩ = some (.slice none 0 0) → W.frozen? ⟨z + 1 + 1, 0, none⟩ = false →
      Calls Tryd.prog 52 #[.pointer (some ⟨z, 0, none⟩), .pointer (some ⟨z + 1, 0, none⟩), .pointer (some ⟨z + 1 + 1, 0, none⟩)] W fun e w' => within 1 e ∧ Chg (isB (z + 1 + 1)) W w' ∧ w'.cell? ⟨z + 1 + 1, 0, none⟩ = some (.slice none 0 0) ∧ w'.frozen? ⟨z + 1 + 1, 0, none⟩ = false := by
    intro W HW d0 d1 d2 g2
    go_enter Tryd.func52, Tryd.ntmps52
    go_wp2_with fail
    refine (mem_region_nil HW.out).mono ?_
    rintro e w1 ⟨rfl, rfl⟩
    exact ⟨rfl, .inr ⟨by decide, rfl⟩, Chg.refl _ _, d2, g2⟩
  have L1 := Lib.hid (mem_on' (z := z + 1 + 1 + 1) (P := isB (z + 1 + 1)) (S := fun w' => w'.cell? ⟨z + 1 + 1, 0, none⟩ = some (.slice none 0 0) ∧ w'.frozen? ⟨z + 1 + 1, 0, none⟩ = false) 1 enters_mwords1 (by simp [hz]) (by unfold isB; omega)
    (X1 _ HP c0 c1 c2 f2) (fun w' q => ⟨by rw [cell_far _ _ _ _ (by simp)]; exact q.1, by simpa using q.2⟩))
  have HZ := Lib.hid hz
  clear c0 c1 c2 f2 hx h X1 HP
  go_enter Tryd.func28, Tryd.ntmps28
  go_wp2_with fail
  refine L1.out.mono ?_
  rintro e w1 ⟨rfl, hc, c2, f2⟩
  go_wp2_with fail
  have d2 := World.cell?_setCell_same w1 ⟨z + 1 + 1, 0, none⟩ (.slice none 0 0) c2
  refine bodyPost_ret (v := .tuple #[.slice none 0 0, .int .i64 1]) (by simp [results, Tryd.results28, go_sem, d2]) rfl ⟨rfl, ?_⟩
  refine (Chg.setCell (P := isB (z + 1 + 1)) (p := ⟨z + 1 + 1, 0, none⟩) hc (.inl rfl) _).over ((((Ext.refl w).alloc _).alloc _).alloc _) (fun j hj => ?_)
  have := HZ.out
  unfold isB at hj
  omega

/-! ### Copy -/
def basesTo (c : Conf) (k : Nat) : List Int := (List.range k).map fun t => (baseN c t : Int)
theorem basesTo_len (c : Conf) (k : Nat) : (basesTo c k).length = k := by simp [basesTo]
theorem basesTo_succ (c : Conf) (k : Nat) : basesTo c (k + 1) = basesTo c k ++ [(baseN c k : Int)] := by unfold basesTo; rw [List.range_succ, List.map_append]; rfl
theorem nth_basesTo {c : Conf} {k t : Nat} (h : t < k) : nth (basesTo c k) t = baseN c t := by simp [nth, List.getD, basesTo, h]
theorem MemAt.basesAt {w : World} {b gw gb : Nat} {c : Conf} {ws : List Int} (h : MemAt w b gw gb c ws) : At .i64 w (some ⟨gb, 0, none⟩) (basesTo c (c.ts.length + 1)) := by
  refine At.mk fun i hi => ?_
  rw [basesTo_len] at hi
  rw [Nat.zero_add, nth_basesTo hi]
  exact h.base i (by omega)
theorem MemAt.ofNew {w0 W W' : World} {b : Nat} {c : Conf} {ws : List Int} {a1 a2 : Option Addr} {k1 k2 : Nat} (ho : KOk c) (hl : ws.length = totalN c) (h1 : NewInts .u64 w0 W a1 k1 ws) (h2 : NewInts .i64 w0 W a2 k2 (basesTo c (c.ts.length + 1))) (hx : Ext W W')
    (hne : ∀ g1 g2, a1 = some ⟨g1, 0, none⟩ → a2 = some ⟨g2, 0, none⟩ → g2 ≠ g1) (hb : W.heap.size ≤ b) (c0 : W'.cell? ⟨b, 0, none⟩ = some (.slice a1 ws.length k1)) (c1 : W'.cell? ⟨b, 1, none⟩ = some (.slice a2 (c.ts.length + 1) k2)) :
    ∃ gw gb, MemAt W' b gw gb c ws ∧ w0.heap.size ≤ gw ∧ w0.heap.size ≤ gb := by
  obtain ⟨g1, rfl, l1, u1, f1⟩ := h1.own (by rw [hl]; exact ho.total_pos)
  obtain ⟨g2, rfl, l2, u2, f2⟩ := h2.own (by rw [basesTo_len]; omega)
  have q1 := h1.cap1; have q2 := h2.cap1
  rw [basesTo_len] at q2
  refine ⟨g1, g2, ⟨ho, hl, ⟨k1, c0, q1, h1.cap2⟩, ⟨k2, c1, q2, h2.cap2⟩, h1.row.ext hx, fun t ht => ?_, fun o => by rw [hx.frozen (p := ⟨g1, o, none⟩) u1]; exact f1 o, by omega, hne g1 g2 rfl rfl⟩, l1, l2⟩
  obtain ⟨b', o', e, hc⟩ := h2.row t (by rw [basesTo_len]; omega)
  cases e
  rw [Nat.zero_add, nth_basesTo (by omega)] at hc
  exact hx.cell hc

theorem MemNew.mk {c : Conf} {ws : List Int} {w W : World} {a1 a2 : Option Addr} {k1 k2 N2 : Nat} {u : TypeId} (ho : KOk c) (hl : ws.length = totalN c) (e2 : c.ts.length + 1 = N2) (h1 : NewInts .u64 w W a1 k1 ws) (h2 : NewInts .i64 w W a2 k2 (basesTo c N2))
    (hne : ∀ g1 g2, a1 = some ⟨g1, 0, none⟩ → a2 = some ⟨g2, 0, none⟩ → g2 ≠ g1) (hx : Ext w W) :
    MemNew c ws w (.returned (.pointer (some ⟨W.heap.size, 0, none⟩))) (W.alloc (.cells #[.slice a1 ws.length k1, .slice a2 (basesTo c N2).length k2] u)) := by
  subst e2
  rw [basesTo_len]
  obtain ⟨gw, gb, h, l1, l2⟩ := MemAt.ofNew (W' := W.alloc (.cells #[.slice a1 ws.length k1, .slice a2 (c.ts.length + 1) k2] u)) ho hl h1 h2 ((Ext.refl W).alloc _) hne (Nat.le_refl _) (cell_newN W _ u 0) (cell_newN W _ u 1)
  exact ⟨_, gw, gb, rfl, h, hx.size, l1, l2, hx.alloc _⟩

end Go.Proofs.YtnbngcagnchkdaaDoor

/-! mem.New: a memory of zeros. -/
namespace Go.Proofs.YtnbngcagnchkdaaDoor
open Go.RowKit

/-- What New's loop keeps. -/
structure MemR (w0 : World) (c : Conf) (b gw k : Nat) (sv : Value) (wr : World) : Prop where
  c0 : wr.cell? ⟨b, 0, none⟩ = some (.slice (some ⟨gw, 0, none⟩) (totalN c) (totalN c))
  c1 : wr.cell? ⟨b, 1, none⟩ = some sv
  row : At .u64 wr (some ⟨gw, 0, none⟩) (List.replicate (totalN c) 0)
  own : wr.ownsRow (b + 1) 3 1 sv k (ncs .i64 (basesTo c k))
  fz : ∀ o, wr.frozen? ⟨b, o, none⟩ = false
  fw : ∀ o, wr.frozen? ⟨gw, o, none⟩ = false
  lo : w0.heap.size ≤ gw
  gb : gw < b
  ext : Ext w0 wr
theorem MemR.go {w0 wr w' : World} {c : Conf} {b gw k : Nat} {sv : Value} (h : MemR w0 c b gw k sv wr) (hx : Ext wr w') : MemR w0 c b gw k sv w' :=
  ⟨hx.cell h.c0, hx.cell h.c1, h.row.ext hx, own_ext h.own hx, fun o => by rw [hx.frozen (p := ⟨b, o, none⟩) (show b < wr.heap.size from cell_lt h.c0)]; exact h.fz o,
    fun o => by rw [hx.frozen (p := ⟨gw, o, none⟩) (show gw < wr.heap.size from Nat.lt_trans h.gb (cell_lt h.c0))]; exact h.fw o, h.lo, h.gb, h.ext.trans hx⟩
theorem MemR.ne {w0 wr : World} {c : Conf} {b gw k x : Nat} {sv : Value} (h : MemR w0 c b gw k sv wr) (hx : x ≤ b) : some x ≠ sv.ownBlock := fun e => by
  have := (h.own.lt x e.symm).1; omega
/-- .. behind the append, ahead of the store. -/
theorem MemR.grown {w0 w3 W w4 : World} {c : Conf} {b gw k : Nat} {sv : Value} (h : MemR w0 c b gw k sv w3) (hx : Ext w3 W) (hg : W.grownBy w4 sv.ownBlock) :
    w4.cell? ⟨b, 1, none⟩ = some sv ∧ w4.frozen? ⟨b, 1, none⟩ = false := by
  have hl : b < w3.heap.size := cell_lt h.c0
  refine ⟨grow_cell hg hx h.c1 (h.ne (Nat.le_refl b)), ?_⟩
  rw [hg.frozen_far _ (Nat.lt_of_lt_of_le hl hx.size) (h.ne (Nat.le_refl b)), hx.frozen (p := ⟨b, 1, none⟩) hl]; exact h.fz 1
theorem MemR.push {w0 w3 W w4 : World} {c : Conf} {b gw k : Nat} {sv V : Value} (h : MemR w0 c b gw k sv w3) (hx : Ext w3 W) (hg : W.grownBy w4 sv.ownBlock) (hown : w4.ownsRow (b + 1) 3 1 V (k + 1) (ncs .i64 (basesTo c (k + 1)))) :
    MemR w0 c b gw (k + 1) V (w4.setCell ⟨b, 1, none⟩ V) := by
  have hl : b < w3.heap.size := cell_lt h.c0
  have hgl : gw < w3.heap.size := Nat.lt_trans h.gb hl
  have nb := h.ne (Nat.le_refl b)
  have ng := h.ne (x := gw) (Nat.le_of_lt h.gb)
  have hgb := h.gb
  have q0 := grow_cell hg hx h.c0 nb
  have q1 := (h.grown hx hg).1
  have far : ∀ i u, w3.cell? ⟨gw, i, none⟩ = some u → (w4.setCell ⟨b, 1, none⟩ V).cell? ⟨gw, i, none⟩ = some u := fun i u hc => by
    rw [cell_far _ _ _ _ (by show b ≠ gw; omega)]; exact grow_cell hg hx hc ng
  refine ⟨?_, World.cell?_setCell_same _ _ _ q1, fun i hi => ?_, own_setCell hown (p := ⟨b, 1, none⟩) (Nat.lt_succ_self b) _, fun o => ?_, fun o => ?_, h.lo, h.gb, ?_⟩
  · have := World.cell?_setCell_other w4 ⟨b, 1, none⟩ ⟨b, 0, none⟩ V (by intro e; cases e)
    rw [this]; exact q0
  · obtain ⟨b', o', e, hc⟩ := h.row i hi
    cases e
    exact ⟨gw, 0, rfl, far _ _ hc⟩
  · simp only [World.frozen?_setCell]
    rw [hg.frozen_far _ (Nat.lt_of_lt_of_le hl hx.size) nb, hx.frozen (p := ⟨b, o, none⟩) hl]; exact h.fz o
  · simp only [World.frozen?_setCell]
    rw [hg.frozen_far _ (Nat.lt_of_lt_of_le hgl hx.size) ng, hx.frozen (p := ⟨gw, o, none⟩) hgl]; exact h.fw o
  · exact ((h.ext.trans hx).grown hg fun k' e => by have := (h.own.lt k' e).1; have := h.lo; omega).setCell (p := ⟨b, 1, none⟩) (by show w0.heap.size ≤ b; have := h.lo; omega) V
theorem MemR.mem {w0 wr : World} {c : Conf} {b gw : Nat} {sv : Value} (h : MemR w0 c b gw (c.ts.length + 1) sv wr) (ho : KOk c) : ∃ gb, MemAt wr b gw gb c (List.replicate (totalN c) 0) ∧ w0.heap.size ≤ gb := by
  have hb := h.gb
  obtain ⟨gb, cap, e, h1, h2, _, h4, h5, h6, h7⟩ := own_ints (xs := basesTo c (c.ts.length + 1)) h.own (by omega)
  have c1 := h.c1
  rw [e] at c1
  have := ho.total_le
  refine ⟨gb, ⟨ho, by simp, ⟨totalN c, by simpa using h.c0, by simp, by unfold maxLen; omega⟩, ⟨cap, c1, h4, h5⟩, h.row, fun t ht => ?_, h.fw, by omega, by omega⟩, by have := h.lo; omega⟩
  obtain ⟨b', o', e', hc⟩ := h6 t (by rw [basesTo_len]; omega)
  cases e'
  rw [Nat.zero_add, nth_basesTo (by omega)] at hc
  exact hc

theorem make_mwords (n : Nat) (h : n ≤ 8388608) : ∀ W : World, (Instr.makeSlice 56 (.int .i64 (n : Int)) (.int .i64 (n : Int))).run Tryd.prog W = .ok (.slice (some ⟨W.heap.size, 0, none⟩) n n) (W.alloc (.cells (madeCells #[.int .u64 0] n) 26)) := by
  intro W
  exact run_make_row' 56 26 (.int .u64 0) 8 Tryd.underlying56 info_w64 rfl .i64 .i64 n (by omega) (by omega) W
theorem made_mwords {w : World} {n : Nat} {t : TypeId} {b : Nat} (hb : w.heap.size = b) : At .u64 (w.alloc (.cells (madeCells #[.int .u64 0] n) t)) (some ⟨b, 0, none⟩) (List.replicate n 0) := by
  subst hb
  refine At.mk fun i hi => ?_
  rw [List.length_replicate] at hi
  rw [Nat.zero_add, cell_newN, made_at hi]
  simp [nth, List.getD, hi]

/-- What New hands back. -/
def MemMade (c : Conf) (w : World) (e : Ending) (w' : World) : Prop :=
  ∃ b gw gb, e = .returned (.tuple #[.pointer (some ⟨b, 0, none⟩), .int .i64 0]) ∧ MemAt w' b gw gb c (List.replicate (totalN c) 0) ∧ w.heap.size ≤ b ∧ w.heap.size ≤ gw ∧ w.heap.size ≤ gb ∧ Ext w w'

set_option maxHeartbeats 2000000 in
theorem mem_New_no {ca ta : Option Addr} {cc tc : Nat} (c : Conf) {w : World} (hn : kcheck c ≠ 0) (h : CfgAt w ca ta cc tc c) :
    Calls Tryd.prog 19 #[.agg #[.slice ca c.cl.length cc, .int .i64 c.page, .slice ta c.ts.length tc, .int .i64 c.wk, .int .i64 c.gr, .int .i64 c.gens]] w fun e w' => e = .returned (.tuple #[.pointer none, .int .i64 2]) ∧ Ext w w' := by
  have h1 := Ext.refl (w.alloc (.cells #[.slice ca c.cl.length cc, .int .i64 c.page, .slice ta c.ts.length tc, .int .i64 c.wk, .int .i64 c.gr, .int .i64 c.gens] 25))
  have hx := (Ext.refl w).alloc (.cells #[.slice ca c.cl.length cc, .int .i64 c.page, .slice ta c.ts.length tc, .int .i64 c.wk, .int .i64 c.gr, .int .i64 c.gens] 25)
  have R := Lib.hid (show ktotal c = (0, 2) by unfold ktotal; rw [if_neg hn])
  have H := Lib.hid h
  clear h hn
  go_enter Tryd.func19, Tryd.ntmps19
  go_wp2_with fail
  refine (conf_Total c 0 2 R.out (H.out.ext (hx.trans h1))).mono ?_
  rintro e w1 ⟨rfl, h2⟩
  replace h1 := h1.trans h2
  clear h2
  go_wp2_with fail
  go_ret2
  exact ⟨rfl, hx.trans h1⟩

set_option maxRecDepth 100000 in
set_option maxHeartbeats 8000000 in
theorem mem_New {ca ta : Option Addr} {cc tc : Nat} (c : Conf) {w : World} (hk0 : kcheck c = 0) (h : CfgAt w ca ta cc tc c) :
    Calls Tryd.prog 19 #[.agg #[.slice ca c.cl.length cc, .int .i64 c.page, .slice ta c.ts.length tc, .int .i64 c.wk, .int .i64 c.gr, .int .i64 c.gens]] w (MemMade c w) := by
  obtain ⟨i0, hi0, hz0, hz1, hz2⟩ := info_parts info_int
  have h1 := Ext.refl (w.alloc (.cells #[.slice ca c.cl.length cc, .int .i64 c.page, .slice ta c.ts.length tc, .int .i64 c.wk, .int .i64 c.gr, .int .i64 c.gens] 25))
  have hx := (Ext.refl w).alloc (.cells #[.slice ca c.cl.length cc, .int .i64 c.page, .slice ta c.ts.length tc, .int .i64 c.wk, .int .i64 c.gr, .int .i64 c.gens] 25)
  have ho := kcheck_ok hk0
  have K0 := Lib.hid hk0
  have HO := Lib.hid ho
  have t1 := ho.head.2.2.1
  have t8 := ho.head.2.2.2.1
  have tl := ho.total_le
  have hmk := make_mwords (totalN c) tl
  have R := Lib.hid (show ktotal c = (((totalN c : Nat) : Int), 0) by
    have := ho.baseN_eq (t := c.ts.length) (Nat.le_refl _)
    unfold ktotal; rw [if_pos hk0]; unfold totalN; rw [this])
  have H := Lib.hid h
  clear h hk0 ho
  obtain ⟨T, hT⟩ : ∃ T, totalN c = T := ⟨_, rfl⟩
  have ET := Lib.hid hT
  rw [hT] at hmk R tl
  clear hT
  go_enter Tryd.func19, Tryd.ntmps19
  go_wp2_with fail
  refine (conf_Total c T 0 R.out (H.out.ext (hx.trans h1))).mono ?_
  rintro e w1 ⟨rfl, h2⟩
  replace h1 := h1.trans h2
  clear h2
  obtain ⟨b0, b1, b2, b3, b4, b5⟩ := box6 h1
  have hlt1 : w.heap.size < w1.heap.size := cell_lt b0
  go_wp2_with fail
  have PR0 : Hid (MemR (w.alloc (.cells #[.slice ca c.cl.length cc, .int .i64 c.page, .slice ta c.ts.length tc, .int .i64 c.wk, .int .i64 c.gr, .int .i64 c.gens] 25)) c (w1.heap.size + 1) w1.heap.size 0 (.slice none 0 0) ((w1.alloc (.cells (madeCells #[.int .u64 0] T) 26)).alloc (.cells #[.slice (some ⟨w1.heap.size, 0, none⟩) T T, .slice none 0 0] 103))) := Lib.hid (by
    have e : (w1.alloc (.cells (madeCells #[.int .u64 0] T) 26)).heap.size = w1.heap.size + 1 := by simp
    have x := (Ext.refl (w1.alloc (.cells (madeCells #[.int .u64 0] T) 26))).alloc (.cells #[.slice (some ⟨w1.heap.size, 0, none⟩) T T, .slice none 0 0] 103)
    refine ⟨?_, ?_, ?_, World.ownsRow_nil _ _ _ _, fun o => ?_, fun o => ?_, h1.size, Nat.lt_succ_self _, (h1.alloc _).alloc _⟩
    · rw [ET.out, ← e]; exact cell_newN _ _ _ 0
    · rw [← e]; exact cell_newN _ _ _ 1
    · rw [ET.out]; exact (made_mwords rfl).ext x
    · rw [← e]; exact World.frozen?_alloc_at _ _ _ _ rfl
    · rw [x.frozen (p := ⟨w1.heap.size, o, none⟩) (by simp)]; exact World.frozen?_alloc_at _ _ _ _ rfl)
  clear b0 b1 b2 b3 b4 b5 hlt1 h1 hmk
  generalize w1.heap.size = gw at *
  go_loopw [25] (fun kv wr => ∃ (k : Nat) (sv : Value), k ≤ c.ts.length ∧ kv = .int .i64 k ∧ Hid (MemR (w.alloc (.cells #[.slice ca c.cl.length cc, .int .i64 c.page, .slice ta c.ts.length tc, .int .i64 c.wk, .int .i64 c.gr, .int .i64 c.gens] 25)) c (gw + 1) gw k sv wr)) (fun kv _ => c.ts.length - (intOf kv).toNat)
  case atStart => exact ⟨0, _, Nat.zero_le _, rfl, PR0⟩
  case round =>
    clear PR0
    obtain ⟨k, sv, hk, rfl, PR⟩ := hrel
    have h1 := PR.out.ext
    by_cases hlt : k < c.ts.length
    · have KB := Lib.hid (show kbase c k = (((baseN c k : Nat) : Int), 0) by
        rw [kbase_yes (there_mk K0.out hlt HO.out.cl.pos), HO.out.baseN_eq (by omega)])
      have BS := Lib.hid (basesTo_succ c k)
      obtain ⟨b0, b1, b2, b3, b4, b5⟩ := box6 h1
      generalize baseN c k = B at *
      go_wp2_with fail
      clear b0 b1 b2 b3 b4 b5
      refine (conf_Base c k B 0 KB.out (H.out.ext (hx.trans h1))).mono ?_
      rintro e w2 ⟨rfl, h2⟩
      have PR2 := Lib.hid (PR.out.go h2)
      clear h2 h1
      have p1 := PR2.out.c1
      have hb2 : gw + 1 < w2.heap.size := cell_lt p1
      go_wp2_with (at_builtin; refine wpList_append_lies _ rfl (.tmp 38) (.tmp 40) 22 rfl (gw + 1 + 1) 3 i0 (.int .i64 0) 1 8 Tryd.underlying22 hi0 hz0 hz1 hz2 rfl (by decide) sv k (ncs .i64 (basesTo c k)) rfl (own_ext PR2.out.own ((Ext.refl _).alloc _)) ⟨w2.heap.size, 0, none⟩ 1 1 [.int .i64 B] rfl rfl (news1 _ _ _) (one1 rfl) (by omega) (by unfold maxLen; omega) (by omega) (by simp; omega) (w2.heap.size + 1) (by simp) ?_; intro gg cap w4 hown hgrow hat hlt4; obtain ⟨q1, qf⟩ := PR2.out.grown ((Ext.refl _).alloc _) hgrow; have PR4 := Lib.hid (PR2.out.push ((Ext.refl _).alloc _) hgrow (by rw [BS.out, ← ncs_snoc]; exact hown)); clear hown hgrow hat)
      go_roundw
      case rel => exact ⟨k + 1, _, by omega, by go_num, PR4⟩
      case measure => simp [intOf]; omega
    · obtain rfl : k = c.ts.length := by omega
      have BS := Lib.hid (show basesTo c (c.ts.length + 1) = basesTo c c.ts.length ++ [(T : Int)] by rw [basesTo_succ, ← ET.out]; rfl)
      have p1 := PR.out.c1
      have hb2 : gw + 1 < wr.heap.size := cell_lt p1
      clear h1
      go_wp2_with (at_builtin; refine wpList_append_lies _ rfl (.tmp 49) (.tmp 51) 22 rfl (gw + 1 + 1) 3 i0 (.int .i64 0) 1 8 Tryd.underlying22 hi0 hz0 hz1 hz2 rfl (by decide) sv c.ts.length (ncs .i64 (basesTo c c.ts.length)) rfl (own_ext PR.out.own ((Ext.refl _).alloc _)) ⟨wr.heap.size, 0, none⟩ 1 1 [.int .i64 T] rfl rfl (news1 _ _ _) (one1 rfl) (by omega) (by unfold maxLen; omega) (by omega) (by simp; omega) (wr.heap.size + 1) (by simp) ?_; intro gg cap w4 hown hgrow hat hlt4; obtain ⟨q1, qf⟩ := PR.out.grown ((Ext.refl _).alloc _) hgrow; have PR4 := Lib.hid (PR.out.push ((Ext.refl _).alloc _) hgrow (by rw [BS.out, ← ncs_snoc]; exact hown)); clear hown hgrow hat)
      go_ret2
      obtain ⟨gb, hm, hl⟩ := PR4.out.mem HO.out
      have lo := PR4.out.lo
      have sz : w.heap.size ≤ (w.alloc (.cells #[.slice ca c.cl.length cc, .int .i64 c.page, .slice ta c.ts.length tc, .int .i64 c.wk, .int .i64 c.gr, .int .i64 c.gens] 25)).heap.size := hx.size
      exact ⟨gw + 1, gw, gb, rfl, hm, by omega, by omega, by omega, hx.trans PR4.out.ext⟩

end Go.Proofs.YtnbngcagnchkdaaDoor

/-! commonageref07: the document's memory: its shape; New, In, Load. -/
namespace Go.Proofs.YtnbngcagnchkdaaDoor
open Go.RowKit

/-- The document's memory: a row of slices, each leads to a region's words; no block of them is one of P. -/
structure DocAt (P : Nat → Prop) (w : World) (d : Nat) (c : Conf) (ws : List Int) : Prop where
  ok : KOk c
  len : ws.length = totalN c
  np : ¬ P d
  row : ∀ t, t < c.ts.length → ∃ g rc, ¬ P g ∧ w.cell? ⟨d, t, none⟩ = some (.slice (some ⟨g, 0, none⟩) (wordsN c t) rc) ∧ At .u64 w (some ⟨g, 0, none⟩) (regionL c ws t)
theorem DocAt.chg {P Q : Nat → Prop} {w w' : World} {d : Nat} {c : Conf} {ws : List Int} (h : DocAt P w d c ws) (hx : Chg Q w w') (hQ : ∀ k, Q k → P k) : DocAt P w' d c ws :=
  ⟨h.ok, h.len, h.np, fun t ht => by
    obtain ⟨g, rc, n2, h1, h2⟩ := h.row t ht
    exact ⟨g, rc, n2, hx.cell (fun q => h.np (hQ _ q)) h1, h2.chg hx fun b o e _ q => by cases e; exact n2 (hQ _ q)⟩⟩
theorem DocAt.ext {P : Nat → Prop} {w w' : World} {d : Nat} {c : Conf} {ws : List Int} (h : DocAt P w d c ws) (hx : Ext w w') : DocAt P w' d c ws :=
  h.chg (Q := fun _ => False) (Chg.of_ext hx) fun _ q => q.elim
theorem DocAt.lt {P : Nat → Prop} {w : World} {d : Nat} {c : Conf} {ws : List Int} (h : DocAt P w d c ws) : d < w.heap.size := by
  obtain ⟨g, rc, _, h1, _⟩ := h.row 0 (by have := h.ok.head.2.2.1; omega)
  exact cell_lt h1
theorem DocAt.swap {P Q : Nat → Prop} {w : World} {d : Nat} {c : Conf} {ws : List Int} (h : DocAt P w d c ws) (hQ : ∀ k, k < w.heap.size → Q k → P k) : DocAt Q w d c ws :=
  ⟨h.ok, h.len, fun q => h.np (hQ _ h.lt q), fun t ht => by
    obtain ⟨g, rc, n2, h1, h2⟩ := h.row t ht
    refine ⟨g, rc, fun q => n2 (hQ _ ?_ q), h1, h2⟩
    obtain ⟨b', o', e, hc⟩ := h2 0 (by rw [regionL_len h.ok ht h.len]; exact h.ok.words_pos ht)
    cases e; exact cell_lt hc⟩
theorem DocAt.word {P : Nat → Prop} {w : World} {d t i g : Nat} {c : Conf} {ws : List Int} (h : DocAt P w d c ws) (ht : t < c.ts.length) (hi : i < wordsN c t) (h2 : At .u64 w (some ⟨g, 0, none⟩) (regionL c ws t)) : w.cell? ⟨g, i, none⟩ = some (.int .u64 (nth ws (baseN c t + i))) := by
  obtain ⟨b', o', e, hc⟩ := h2 i (by rw [regionL_len h.ok ht h.len]; exact hi)
  cases e
  rwa [Nat.zero_add, nth_regionL hi] at hc

theorem DocAt.off {P : Nat → Prop} {w : World} {d b : Nat} {v : Value} {c : Conf} {ws : List Int} (h : DocAt P w d c ws) (hd : b ≠ d) (hc : w.cell? ⟨b, 0, none⟩ = some v) (hv : ∀ x, v ≠ .int .u64 x) (u : Value) : DocAt P (w.setCell ⟨b, 0, none⟩ u) d c ws := by
  refine ⟨h.ok, h.len, h.np, fun t ht => ?_⟩
  obtain ⟨g, rc, n2, h1, h2⟩ := h.row t ht
  have ng : b ≠ g := by
    rintro rfl
    obtain ⟨b', o', e, c0⟩ := h2 0 (by rw [regionL_len h.ok ht h.len]; exact h.ok.words_pos ht)
    cases e
    rw [Nat.zero_add, hc] at c0
    exact hv _ (by injection c0)
  refine ⟨g, rc, n2, by rw [cell_far _ _ _ _ (show b ≠ d from hd)]; exact h1, fun i hi => ?_⟩
  obtain ⟨b', o', e, c0⟩ := h2 i hi
  cases e
  exact ⟨g, 0, rfl, by rw [cell_far _ _ _ _ (show b ≠ g from ng)]; exact c0⟩

/-! ### A row of slices that grows -/
structure RowsR (P : Nat → Prop) (w0 : World) (c : Conf) (ws : List Int) (z k : Nat) (sv : Value) (vs : List Value) (wr : World) : Prop where
  c0 : wr.cell? ⟨z, 0, none⟩ = some sv
  own : wr.ownsRow (z + 1) 56 1 sv k vs
  rows : ∀ t, t < k → ∃ g rc, vs[t]? = some (.slice (some ⟨g, 0, none⟩) (wordsN c t) rc) ∧ ¬ P g ∧ g < wr.heap.size ∧ At .u64 wr (some ⟨g, 0, none⟩) (regionL c ws t) ∧ 0 < (regionL c ws t).length
  fz : wr.frozen? ⟨z, 0, none⟩ = false
  lo : w0.heap.size ≤ z
  ext : Ext w0 wr
  nil0 : k = 0 → sv = .slice none 0 0
theorem RowsR.go {P : Nat → Prop} {w0 wr w' : World} {c : Conf} {ws : List Int} {z k : Nat} {sv : Value} {vs : List Value} (h : RowsR P w0 c ws z k sv vs wr) (hx : Ext wr w') : RowsR P w0 c ws z k sv vs w' :=
  ⟨hx.cell h.c0, own_ext h.own hx, fun t ht => by
    obtain ⟨g, rc, h1, h2, h3, h4, h5⟩ := h.rows t ht
    exact ⟨g, rc, h1, h2, Nat.lt_of_lt_of_le h3 hx.size, h4.ext hx, h5⟩, hx.frozenAt h.c0 h.fz, h.lo, h.ext.trans hx, h.nil0⟩
theorem own_slice_ne {w : World} {base k g : Nat} {sv : Value} {vs : List Value} {e : TypeId} {x : Int} (h : w.ownsRow base e 1 sv k vs) (h0 : k = 0 → sv = .slice none 0 0) (hv : ∀ v, vs[0]? = some v → ∃ a n c, v = .slice a n c) (hc : w.cell? ⟨g, 0, none⟩ = some (.int .u64 x)) : some g ≠ sv.ownBlock := by
  intro e0
  rcases Nat.eq_zero_or_pos k with hk | hk
  · rw [h0 hk] at e0; cases e0
  · obtain ⟨b, cap, rfl, _, _⟩ := h.form hk
    have hb : g = b := by simpa [Value.ownBlock] using e0
    subst hb
    have h1 := h.cellAt 0 (by omega)
    rw [hc] at h1
    obtain ⟨a, n, c, e⟩ := hv _ h1.symm
    cases e
theorem RowsR.ne {P : Nat → Prop} {w0 wr : World} {c : Conf} {ws : List Int} {z k g : Nat} {sv : Value} {vs : List Value} {x : Int} (h : RowsR P w0 c ws z k sv vs wr) (hc : wr.cell? ⟨g, 0, none⟩ = some (.int .u64 x)) : some g ≠ sv.ownBlock := by
  refine own_slice_ne h.own h.nil0 (fun v hv => ?_) hc
  rcases Nat.eq_zero_or_pos k with hk | hk
  · obtain ⟨hl, _⟩ := h.own
    have := (List.getElem?_eq_some_iff.1 hv).1
    omega
  · obtain ⟨g, rc, e, _⟩ := h.rows 0 hk
    rw [hv] at e
    exact ⟨_, _, _, by injection e⟩
theorem RowsR.grown {P : Nat → Prop} {w0 w3 W w4 : World} {c : Conf} {ws : List Int} {z k : Nat} {sv : Value} {vs : List Value} (h : RowsR P w0 c ws z k sv vs w3) (hx : Ext w3 W) (hg : W.grownBy w4 sv.ownBlock) : w4.cell? ⟨z, 0, none⟩ = some sv ∧ w4.frozen? ⟨z, 0, none⟩ = false := by
  have n : some z ≠ sv.ownBlock := fun e => by have := (h.own.lt z e.symm).1; omega
  exact ⟨grow_cell hg hx h.c0 n, grow_frozen hg hx h.c0 h.fz n⟩
theorem RowsR.push {P : Nat → Prop} {w0 w3 W w4 : World} {c : Conf} {ws : List Int} {z k g rc : Nat} {sv V : Value} {vs : List Value} (h : RowsR P w0 c ws z k sv vs w3) (hx : Ext w3 W) (hg : W.grownBy w4 sv.ownBlock)
    (hown : w4.ownsRow (z + 1) 56 1 V (k + 1) (vs ++ [.slice (some ⟨g, 0, none⟩) (wordsN c k) rc])) (hp : ¬ P g) (hr : At .u64 W (some ⟨g, 0, none⟩) (regionL c ws k)) (hpos : 0 < (regionL c ws k).length) :
    RowsR P w0 c ws z (k + 1) V (vs ++ [.slice (some ⟨g, 0, none⟩) (wordsN c k) rc]) (w4.setCell ⟨z, 0, none⟩ V) := by
  have n : some z ≠ sv.ownBlock := fun e => by have := (h.own.lt z e.symm).1; omega
  have hW := h.go hx
  have hl : vs.length = k := by have := h.own.1; omega
  have q := (h.grown hx hg).1
  -- a row of words outlives the append and the store
  have keep : ∀ g' xs, 0 < xs.length → At .u64 W (some ⟨g', 0, none⟩) xs → At .u64 (w4.setCell ⟨z, 0, none⟩ V) (some ⟨g', 0, none⟩) xs ∧ g' < w4.heap.size := by
    intro g' xs h0 ha
    obtain ⟨b0, o0, e0, c0⟩ := ha 0 h0
    cases e0
    have nz : z ≠ g' := by
      rintro rfl
      have := hW.c0
      rw [c0] at this
      cases this
      have := h.own.1
      rcases h.own.2 with ⟨e, _⟩ | ⟨_, _, _, e, _⟩ <;> cases e
    have ng := hW.ne c0
    refine ⟨fun i hi => ?_, ?_⟩
    · obtain ⟨b1, o1, e1, c1⟩ := ha i hi
      cases e1
      refine ⟨g', 0, rfl, ?_⟩
      rw [cell_far _ _ _ _ (show z ≠ g' from nz)]
      exact grow_cell hg (Ext.refl W) c1 ng
    · exact cell_lt (grow_cell hg (Ext.refl W) c0 ng)
  refine ⟨World.cell?_setCell_same _ _ _ q, own_setCell hown (p := ⟨z, 0, none⟩) (Nat.lt_succ_self z) _, fun t ht => ?_, ?_, h.lo, ?_, fun e => by omega⟩
  · rcases Nat.lt_or_ge t k with ht | ht
    · obtain ⟨g', rc', h1, h2, h3, h4, h5⟩ := hW.rows t ht
      have := keep g' _ h5 h4
      exact ⟨g', rc', by rw [List.getElem?_append_left (by omega)]; exact h1, h2, by simpa using this.2, this.1, h5⟩
    · obtain rfl : t = k := by omega
      have := keep g _ hpos hr
      exact ⟨g, rc, by rw [← hl]; simp, hp, by simpa using this.2, this.1, hpos⟩
  · simpa using (h.grown hx hg).2
  · exact ((h.ext.trans hx).grown hg fun k' e => by have := (h.own.lt k' e).1; have := h.lo; omega).setCell (p := ⟨z, 0, none⟩) h.lo V
theorem RowsR.doc {P : Nat → Prop} {w0 wr : World} {c : Conf} {ws : List Int} {z : Nat} {sv : Value} {vs : List Value} (h : RowsR P w0 c ws z c.ts.length sv vs wr) (ho : KOk c) (hl : ws.length = totalN c) (hP : ∀ k, P k → k < w0.heap.size) :
    ∃ d cap, sv = .slice (some ⟨d, 0, none⟩) c.ts.length cap ∧ DocAt P wr d c ws ∧ z + 1 ≤ d := by
  obtain ⟨d, cap, rfl, hd, _⟩ := h.own.form (by have := ho.head.2.2.1; omega)
  refine ⟨d, cap, rfl, ⟨ho, hl, fun q => by have := hP _ q; have := h.lo; omega, fun t ht => ?_⟩, hd⟩
  obtain ⟨g, rc, h1, h2, h3, h4, _⟩ := h.rows t ht
  exact ⟨g, rc, h2, by rw [h.own.cellAt _ (by omega)]; exact h1, h4⟩
theorem RowsR.start {P : Nat → Prop} {w0 wr : World} {c : Conf} {ws : List Int} {z : Nat} (h0 : wr.cell? ⟨z, 0, none⟩ = some (.slice none 0 0)) (hf : wr.frozen? ⟨z, 0, none⟩ = false) (lo : w0.heap.size ≤ z) (hx : Ext w0 wr) : RowsR P w0 c ws z 0 (.slice none 0 0) [] wr :=
  ⟨h0, World.ownsRow_nil _ _ _ _, fun _ ht => absurd ht (Nat.not_lt_zero _), hf, lo, hx, fun _ => rfl⟩

theorem newsb {W : World} {b : Nat} (v : Value) (t : TypeId) (hb : W.heap.size = b) : ∀ j u, [v][j]? = some u → (W.alloc (.cells #[v] t)).cell? ((⟨b, 0, none⟩ : Addr).add j) = some u := by
  subst hb; exact news1 W v t
/-- What a call hands back: the document's memory. -/
def DocMade (P : Nat → Prop) (c : Conf) (ws : List Int) (w : World) (e : Ending) (w' : World) : Prop := ∃ d cap, e = .returned (.agg #[.slice (some ⟨d, 0, none⟩) c.ts.length cap]) ∧ DocAt P w' d c ws ∧ w.heap.size ≤ d ∧ Ext w w'
def DocMade2 (P : Nat → Prop) (c : Conf) (ws : List Int) (k : Int) (w : World) (e : Ending) (w' : World) : Prop := ∃ d cap, e = .returned (.tuple #[.agg #[.slice (some ⟨d, 0, none⟩) c.ts.length cap], .int .i64 k]) ∧ DocAt P w' d c ws ∧ Ext w w'

theorem info_rows : (Tryd.prog.info? 56).map (fun i => (i.zero, i.size, i.bytes)) = some (some (.slice none 0 0), 1, 24) := by kernel_rfl

set_option maxRecDepth 100000 in
set_option maxHeartbeats 4000000 in
theorem ref07_New {P : Nat → Prop} {ca ta : Option Addr} {cc tc : Nat} (c : Conf) {w : World} (hk0 : kcheck c = 0) (hP : ∀ k, P k → k < w.heap.size) (h : CfgAt w ca ta cc tc c) :
    Calls Tryd.prog 21 #[.agg #[.slice ca c.cl.length cc, .int .i64 c.page, .slice ta c.ts.length tc, .int .i64 c.wk, .int .i64 c.gr, .int .i64 c.gens]] w (DocMade P c (List.replicate (totalN c) 0) w) := by
  obtain ⟨i0, hi0, hz0, hz1, hz2⟩ := info_parts info_rows
  obtain ⟨z, hz⟩ : ∃ z, w.heap.size = z := ⟨_, rfl⟩
  have h1 := Ext.refl (w.alloc (.cells #[.slice ca c.cl.length cc, .int .i64 c.page, .slice ta c.ts.length tc, .int .i64 c.wk, .int .i64 c.gr, .int .i64 c.gens] 25))
  have hx := (Ext.refl w).alloc (.cells #[.slice ca c.cl.length cc, .int .i64 c.page, .slice ta c.ts.length tc, .int .i64 c.wk, .int .i64 c.gr, .int .i64 c.gens] 25)
  have ho := kcheck_ok hk0
  have K0 := Lib.hid hk0; have HO := Lib.hid ho; have HP := Lib.hid hP
  have t1 := ho.head.2.2.1
  have t8 := ho.head.2.2.2.1
  have tl := ho.total_le
  have H := Lib.hid h
  clear h hk0 ho hP
  go_enter Tryd.func21, Tryd.ntmps21
  go_wp2_with fail
  have R0 : Hid (RowsR P ((w.alloc (.cells #[.slice ca c.cl.length cc, .int .i64 c.page, .slice ta c.ts.length tc, .int .i64 c.wk, .int .i64 c.gr, .int .i64 c.gens] 25)).alloc (.cells #[.slice none 0 0] 35)) c (List.replicate (totalN c) 0) (z + 1 + 1) 0 (.slice none 0 0) [] (((w.alloc (.cells #[.slice ca c.cl.length cc, .int .i64 c.page, .slice ta c.ts.length tc, .int .i64 c.wk, .int .i64 c.gr, .int .i64 c.gens] 25)).alloc (.cells #[.slice none 0 0] 35)).alloc (.cells #[.slice none 0 0] 35))) := Lib.hid (by
    obtain ⟨q0, qf⟩ := box_new ((w.alloc (.cells #[.slice ca c.cl.length cc, .int .i64 c.page, .slice ta c.ts.length tc, .int .i64 c.wk, .int .i64 c.gr, .int .i64 c.gens] 25)).alloc (.cells #[.slice none 0 0] 35)) (.slice none 0 0) 35 (b := z + 1 + 1) (by simp [hz])
    exact RowsR.start q0 qf (by simp [hz]) ((Ext.refl _).alloc _))
  go_loopw [4] (fun kv wr => ∃ (k : Nat) (sv : Value) (vs : List Value), k ≤ c.ts.length ∧ kv = .int .i64 k ∧ Hid (RowsR P ((w.alloc (.cells #[.slice ca c.cl.length cc, .int .i64 c.page, .slice ta c.ts.length tc, .int .i64 c.wk, .int .i64 c.gr, .int .i64 c.gens] 25)).alloc (.cells #[.slice none 0 0] 35)) c (List.replicate (totalN c) 0) (z + 1 + 1) k sv vs wr)) (fun kv _ => c.ts.length - (intOf kv).toNat)
  case atStart => exact ⟨0, _, _, Nat.zero_le _, rfl, R0⟩
  case round =>
    clear R0 h1
    obtain ⟨k, sv, vs, hk, rfl, PR⟩ := hrel
    have h1 : Ext (w.alloc (.cells #[.slice ca c.cl.length cc, .int .i64 c.page, .slice ta c.ts.length tc, .int .i64 c.wk, .int .i64 c.gr, .int .i64 c.gens] 25)) wr := ((Ext.refl _).alloc _).trans PR.out.ext
    obtain ⟨b0, b1, b2, b3, b4, b5⟩ := box6 h1
    rw [hz] at b0 b1 b2 b3 b4 b5
    by_cases hlt : k < c.ts.length
    · have KR := Lib.hid (show kregion c k = (((wordsN c k : Nat) : Int), 0) by
        rw [kregion_yes (there_mk K0.out hlt HO.out.cl.pos), HO.out.wordsN_eq hlt])
      have RR := Lib.hid (replicate_region HO.out hlt)
      have wp := HO.out.words_pos hlt
      have win := HO.out.region_in hlt
      have hmk := make_mwords (wordsN c k) (by omega)
      have MR := Lib.hid (fun (W : World) (g : Nat) (hg : W.heap.size = g) => made_mwords (w := W) (n := wordsN c k) (t := 26) hg)
      go_wp2_with fail
      clear b0 b1 b2 b3 b4 b5
      refine (ref06_Region c k _ 0 KR.out (H.out.ext (hx.trans h1))).mono ?_
      rintro e w2 ⟨rfl, h2⟩
      have PR2 := Lib.hid (PR.out.go h2)
      clear h2 h1
      have p1 := PR2.out.c0
      have hb2 : z + 1 + 1 < w2.heap.size := cell_lt p1
      go_wp2_with fail
      have hb3 : z + 1 + 1 < w2.heap.size + 1 := by omega
      have n2 : ¬ z + 1 + 1 = w2.heap.size := by omega
      have n3 : ¬ z + 1 + 1 = w2.heap.size + 1 := by omega
      have NP := Lib.hid (show ¬ P w2.heap.size from fun q => by have := HP.out _ q; omega)
      have HPO := Lib.hid (show 0 < (regionL c (List.replicate (totalN c) 0) k).length by rw [RR.out, List.length_replicate]; exact wp)
      have pf : w2.frozen? ⟨z + 1 + 1, 0, none⟩ = false := PR2.out.fz
      go_region_law ((refine step_append_lies _ (by rfl) (.tmp 21) (.tmp 24) 33 (by rfl) (z + 1 + 1 + 1) 56 i0 (.slice none 0 0) 1 24 Tryd.underlying33 hi0 hz0 hz1 hz2 rfl (by decide) sv k vs (by simp [Act.eval]) (own_ext PR2.out.own (by repeat (first | with_reducible exact Ext.refl _ | with_reducible refine Ext.drew ?_ | with_reducible refine Ext.alloc ?_ _))) ⟨w2.heap.size + 1, 0, none⟩ 1 1 [.slice (some ⟨w2.heap.size, 0, none⟩) (wordsN c k) (wordsN c k)] (by simp [Act.eval]) rfl (newsb _ _ (by simp)) (one1 rfl) (by decide) (by unfold maxLen; omega) (by omega) (by simp; omega) (w2.heap.size + 1 + 1) (by simp) ?_; intro gg cap w4 hown hgrow hat hlt4; obtain ⟨q1, qf⟩ := PR2.out.grown (by repeat (first | with_reducible exact Ext.refl _ | with_reducible refine Ext.drew ?_ | with_reducible refine Ext.alloc ?_ _)) hgrow; have PR4 := Lib.hid (PR2.out.push (by repeat (first | with_reducible exact Ext.refl _ | with_reducible refine Ext.drew ?_ | with_reducible refine Ext.alloc ?_ _)) hgrow hown NP.out (by rw [RR.out]; first | exact (MR.out w2 _ rfl).ext (by repeat (first | with_reducible exact Ext.refl _ | with_reducible refine Ext.drew ?_ | with_reducible refine Ext.alloc ?_ _)) | exact (MR.out w2.drew _ rfl).ext (by repeat (first | with_reducible exact Ext.refl _ | with_reducible refine Ext.drew ?_ | with_reducible refine Ext.alloc ?_ _)) | fail) HPO.out)))
      all_goals
        go_wp2_with fail
        go_roundw
        case rel => exact ⟨k + 1, _, _, by omega, by go_num, PR4⟩
        case measure => simp [intOf]; omega
    · obtain rfl : k = c.ts.length := by omega
      obtain ⟨d, cap, rfl, hd, zd⟩ := PR.out.doc HO.out (by simp) (fun k q => by have := HP.out k q; have := hx.size; simp; omega)
      have DD := Lib.hid hd
      have p1 := PR.out.c0
      have X := Lib.hid PR.out.ext
      obtain ⟨q0, qf⟩ := box_up (box_new (w.alloc (.cells #[.slice ca c.cl.length cc, .int .i64 c.page, .slice ta c.ts.length tc, .int .i64 c.wk, .int .i64 c.gr, .int .i64 c.gens] 25)) (.slice none 0 0) 35 (b := z + 1) (by simp [hz])) X.out
      clear PR h1 hd
      go_wp2_with fail
      have q1 := World.cell?_setCell_same wr ⟨z + 1, 0, none⟩ (.slice (some ⟨d, 0, none⟩) c.ts.length cap) q0
      refine bodyPost_ret (v := .agg #[.slice (some ⟨d, 0, none⟩) c.ts.length cap]) (by simp [results, Tryd.results21, go_sem, q1]) rfl ⟨d, cap, rfl, ?_, by omega, ?_⟩
      · exact DD.out.off (by omega) q0 (by intro x e; cases e) _
      · exact (hx.trans (((Ext.refl _).alloc _).trans X.out)).setCell (p := ⟨z + 1, 0, none⟩) (by show w.heap.size ≤ z + 1; omega) _

end Go.Proofs.YtnbngcagnchkdaaDoor
