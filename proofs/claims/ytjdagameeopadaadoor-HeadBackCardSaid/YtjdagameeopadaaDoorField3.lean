/-
  field.Pack, Unpack.
-/
import Derived.Test.YtjdagameeopadaaDoorField2
namespace Go.Proofs.YtjdagameeopadaaDoor
open Go.RowKit

theorem packR_bad {xs vs : List Int} (h : ¬ Wok xs) : packR xs vs = (0, 2) := by unfold packR; rw [if_neg fun c => h (wokB_iff.1 c.1)]
theorem packR_len {xs vs : List Int} (h : vs.length ≠ xs.length) : packR xs vs = (0, 2) := by unfold packR; rw [if_neg fun c => h c.2]
theorem packR_ok {xs vs : List Int} (h : Wok xs) (hl : vs.length = xs.length) (hf : ∀ i, i < xs.length → fitsB (nth vs i) (nth xs i) = true) : packR xs vs = (((pk xs vs xs.length : Nat) : Int), 0) := by
  unfold packR; rw [if_pos ⟨wokB_iff.2 h, hl⟩, if_pos (by unfold allFits; simpa using hf)]
theorem packR_four {xs vs : List Int} (h : Wok xs) (hl : vs.length = xs.length) {n : Nat} (hn : n < xs.length) (hf : fitsB (nth vs n) (nth xs n) = false) : packR xs vs = (0, 4) := by
  unfold packR
  rw [if_pos ⟨wokB_iff.2 h, hl⟩, if_neg]
  unfold allFits
  simp only [decide_eq_true_eq]
  intro c
  have := c n hn
  rw [hf] at this; cases this

set_option maxHeartbeats 2000000 in
theorem field_Pack {a b : Option Addr} {ca cb : Nat} (xs vs : List Int) (p q : Int) {w : World} (hpq : packR xs vs = (p, q)) (h : At .i64 w a xs) (hl : xs.length ≤ maxLen) (hv : At .u64 w b vs) (hvl : vs.length ≤ maxLen)
    (hvb : ∀ n ∈ vs, 0 ≤ n ∧ n < 18446744073709551616) :
    Calls Tryd.prog 19 #[.slice a xs.length ca, .slice b vs.length cb] w fun e w' => e = .returned (.tuple #[.int .u64 p, .int .i64 q]) ∧ Ext w w' := by
  have hx := (Ext.refl w).alloc (.cells #[.slice b vs.length cb] 50)
  have H := Lib.hid h; have HV := Lib.hid hv; have HB := Lib.hid hvb; have HL := Lib.hid hl; have HVL := Lib.hid hvl
  have hl2 := hl; have hvl2 := hvl
  unfold maxLen at hl2 hvl2
  clear h hv hvb hl hvl
  by_cases wk : Wok xs
  · have WK := Lib.hid wk
    have HA := Lib.hid (allR_yes wk)
    by_cases hlen : vs.length = xs.length
    · have hc0 : ∀ w1 : World, Ext (w.alloc (.cells #[.slice b vs.length cb] 50)) w1 → PackW w (w1.alloc (.cells #[.int .u64 0] 24)) w1.heap.size w.heap.size b vs.length cb 0 := by
        intro w1 h1
        have := h1.size
        simp at this
        exact ⟨(hx.trans h1).alloc _, cell_alloc (h1.cell (cell_new1 _ _ _)) _, cell_new1 _ _ _, World.frozen?_alloc_at _ _ _ _ rfl, by omega, by omega⟩
      have HC := Lib.hid hc0
      have HLEN := Lib.hid hlen
      have hlenb : (vs.length != xs.length) = false := by simp [hlen]
      have hlenc : ((vs.length : Int) != (xs.length : Int)) = false := by simp [hlen]
      rcases first_bad (fun i => fitsB (nth vs i) (nth xs i)) xs.length with hf | ⟨n, hn, hf, hfn⟩
      · rw [packR_ok wk hlen hf] at hpq
        cases hpq
        have HF := Lib.hid hf
        clear wk hc0 hf hlen
        generalize hs : fr xs xs.length = s at *
        have HS := Lib.hid hs; clear hs
        go_enter Tryd.func19, Tryd.ntmps19
        go_wp2_with fail
        refine (field_all xs _ _ HA.out (H.out.ext hx) HL.out).mono ?_
        rintro e w1 ⟨rfl, h1⟩
        have P0 := Lib.hid (HC.out w1 h1)
        have c1 := h1.cell (cell_new1 w (.slice b vs.length cb) 50)
        go_wp2_with fail
        refine (field_each_ok xs s (fun i W => PackW w W w1.heap.size w.heap.size b vs.length cb ((pk xs vs i : Nat) : Int)) HL.out (fun i W hW => H.out.ext hW.ext)
          (fun i W hi hW => by
            have h64 := of64 (pk_64 WK.out i (by omega) fun j hj => HF.out j (by omega))
            exact field_Pack1 vs i _ _ _ hW h64.1 h64.2 (HB.out _ (nth_mem (by have := HLEN.out; omega))) (gset_pk WK.out i hi fun j hj => HF.out j (by omega)) HV.out (by have := HLEN.out; omega) HVL.out)
          WK.out.fr0 P0.out enters_Pack1 HS.out).mono ?_
        rintro e w2 ⟨rfl, hW⟩
        have c2 := hW.word
        have HW := Lib.hid hW
        clear hW
        go_wp2_with fail
        go_ret2
        exact ⟨rfl, HW.out.ext⟩
      · rw [packR_four wk hlen hn hfn] at hpq
        cases hpq
        have HF := Lib.hid hf; have HFN := Lib.hid hfn
        clear wk hc0 hf hfn hlen
        go_enter Tryd.func19, Tryd.ntmps19
        go_wp2_with fail
        refine (field_all xs _ _ HA.out (H.out.ext hx) HL.out).mono ?_
        rintro e w1 ⟨rfl, h1⟩
        have P0 := Lib.hid (HC.out w1 h1)
        have c1 := h1.cell (cell_new1 w (.slice b vs.length cb) 50)
        go_wp2_with fail
        refine (field_each_err xs n 4 (fun i W => PackW w W w1.heap.size w.heap.size b vs.length cb (if i ≤ n then ((pk xs vs i : Nat) : Int) else 0)) HL.out (fun i W hW => H.out.ext hW.ext) hn (by decide)
          (fun i W hi hW => by
            have hW' : PackW w W w1.heap.size w.heap.size b vs.length cb ((pk xs vs i : Nat) : Int) := by
              change PackW w W w1.heap.size w.heap.size b vs.length cb (if i ≤ n then ((pk xs vs i : Nat) : Int) else 0) at hW
              rwa [if_pos (by omega)] at hW
            have h64 := of64 (pk_64 WK.out i (by omega) fun j hj => HF.out j (by omega))
            by_cases hin : i = n
            · subst hin
              refine (field_Pack1 vs i _ _ _ hW' h64.1 h64.2 (HB.out _ (nth_mem (by have := HLEN.out; omega))) (gset_pk_no WK.out i (by omega) HFN.out _) HV.out (by have := HLEN.out; omega) HVL.out).mono fun e W' ⟨he, hP⟩ => ⟨he.trans (ret_int (if_pos rfl).symm), ?_⟩
              show PackW w W' w1.heap.size w.heap.size b vs.length cb (if i + 1 ≤ i then ((pk xs vs (i + 1) : Nat) : Int) else 0)
              rwa [if_neg (by omega)]
            · refine (field_Pack1 vs i _ _ _ hW' h64.1 h64.2 (HB.out _ (nth_mem (by have := HLEN.out; omega))) (gset_pk WK.out i (by omega) fun j hj => HF.out j (by omega)) HV.out (by have := HLEN.out; omega) HVL.out).mono fun e W' ⟨he, hP⟩ => ⟨he.trans (ret_int (if_neg hin).symm), ?_⟩
              show PackW w W' w1.heap.size w.heap.size b vs.length cb (if i + 1 ≤ n then ((pk xs vs (i + 1) : Nat) : Int) else 0)
              rwa [if_pos (by omega)])
          (fun i hi => WK.out.fr0 i (by omega)) (show PackW w _ w1.heap.size w.heap.size b vs.length cb (if 0 ≤ n then ((pk xs vs 0 : Nat) : Int) else 0) by rw [if_pos (Nat.zero_le _)]; exact P0.out) enters_Pack1).mono ?_
        rintro e w2 ⟨rfl, hW⟩
        change PackW w w2 w1.heap.size w.heap.size b vs.length cb (if n + 1 ≤ n then ((pk xs vs (n + 1) : Nat) : Int) else 0) at hW
        rw [if_neg (by omega)] at hW
        have c2 := hW.word
        have HW := Lib.hid hW
        clear hW
        go_wp2_with fail
        go_ret2
        exact ⟨rfl, HW.out.ext⟩
    · rw [packR_len hlen] at hpq
      cases hpq
      have hlenb : (vs.length != xs.length) = true := by simpa using hlen
      have hlenc : ((vs.length : Int) != (xs.length : Int)) = true := by simp; omega
      clear wk hlen
      generalize hs : fr xs xs.length = s at *
      clear hs
      go_enter Tryd.func19, Tryd.ntmps19
      go_wp2_with fail
      refine (field_all xs _ _ HA.out (H.out.ext hx) HL.out).mono ?_
      rintro e w1 ⟨rfl, h1⟩
      have c1 := h1.cell (cell_new1 w (.slice b vs.length cb) 50)
      go_wp2_with fail
      go_ret2
      exact ⟨rfl, hx.trans h1⟩
  · have HA := Lib.hid (allR_no wk)
    rw [packR_bad wk] at hpq
    cases hpq
    clear wk
    go_enter Tryd.func19, Tryd.ntmps19
    go_wp2_with fail
    refine (field_all xs _ _ HA.out (H.out.ext hx) HL.out).mono ?_
    rintro e w1 ⟨rfl, h1⟩
    go_wp2_with fail
    go_ret2
    exact ⟨rfl, hx.trans h1⟩

end Go.Proofs.YtjdagameeopadaaDoor
