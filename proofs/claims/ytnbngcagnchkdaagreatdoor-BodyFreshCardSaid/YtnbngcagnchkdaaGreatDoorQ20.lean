/-
  Merged texts: BodyQ, Law11n.
-/
import Derived.Test.YtnbngcagnchkdaaGreatDoorQ09
import Derived.Test.YtnbngcagnchkdaaGreatDoorQ04
import Derived.Test.YtnbngcagnchkdaaGreatDoorQ12
set_option linter.unusedVariables false
set_option linter.unusedSimpArgs false
/-! More of objects in slots, in plain Lean: what an act leaves of other slots; references that may be followed; all fields, one by one. -/
namespace Go.Proofs.YtnbngcagnchkdaaGreatDoor
open Go.RowKit
variable {c : Conf} {t : Nat} {ws ws' : List Int} {s s' : Int}

theorem bAt_ne (ho : KOk c) (ht : t < c.ts.length) (h : bIn c t s) (h' : bIn c t s') (hne : s ≠ s') {i j : Nat} (hi : (i : Int) < bSz c t s) (hj : (j : Int) < bSz c t s') : bAt c t s i ≠ bAt c t s' j := by
  have sb := slotB ho ht h
  have sb' := slotB ho ht h'
  have a := sb.a0; have a' := sb'.a0
  unfold bAt
  rcases Int.lt_or_gt_of_ne hne with q | q
  · have e1 : bAd c t s + bSz c t s ≤ bAd c t s' := slots_apart ho ht sb.at_ sb'.at_ q
    omega
  · have e1 : bAd c t s' + bSz c t s' ≤ bAd c t s := slots_apart ho ht sb'.at_ sb.at_ q
    omega
theorem bwd_set (ho : KOk c) (ht : t < c.ts.length) (hl : ws.length = totalN c) (h : bIn c t s) (h' : bIn c t s') {i j : Nat} (hi : (i : Int) < bSz c t s) (hj : (j : Int) < bSz c t s') (x : Int) :
    bwd c t (ws.set (bAt c t s i) x) s' j = if s' = s ∧ j = i then x else bwd c t ws s' j := by
  unfold bwd
  rw [nth_setL ((slotB ho ht h).at_lt ho ht hl hi)]
  by_cases e : s' = s
  · subst e
    by_cases e2 : j = i
    · rw [if_pos (by rw [e2]), if_pos ⟨rfl, e2⟩]
    · rw [if_neg (by unfold bAt; omega), if_neg (by omega)]
  · rw [if_neg (bAt_ne ho ht h' h e hj hi), if_neg (by omega)]
theorem zero_fit (ho : KOk c) (ht : t < c.ts.length) (hl : ws.length = totalN c) (h : bIn c t s) : bAt c t s 0 + (bSz c t s).toNat ≤ ws.length := by
  have sb := slotB ho ht h
  have f := sb.fit; have a := sb.a0; have s2 := sb.s2; have r := ho.region_in ht
  unfold bAt; omega
theorem bwd_zero (ho : KOk c) (ht : t < c.ts.length) (hl : ws.length = totalN c) (h : bIn c t s) (h' : bIn c t s') {j : Nat} (hj : (j : Int) < bSz c t s') :
    bwd c t (zeroL ws (bAt c t s 0) (bSz c t s).toNat) s' j = if s' = s then 0 else bwd c t ws s' j := by
  have s2 := (slotB ho ht h).s2
  unfold bwd
  rw [nth_zeroL (zero_fit ho ht hl h)]
  by_cases e : s' = s
  · subst e
    rw [if_pos rfl, if_pos (by unfold bAt; omega)]
  · rw [if_neg e, if_neg]
    intro q
    have sb := slotB ho ht h
    have n := bAt_ne ho ht h' h e (i := j) (j := bAt c t s' j - bAt c t s 0) hj (by omega)
    have : bAt c t s (bAt c t s' j - bAt c t s 0) = bAt c t s 0 + (bAt c t s' j - bAt c t s 0) := by unfold bAt; omega
    omega
theorem bHead_congr (h : bwd c t ws' s 0 = bwd c t ws s 0) : bHead c t ws' s = bHead c t ws s := by unfold bHead; rw [h]
theorem hdis_zero : ¬ hdis 0 := by unfold hdis; intro h; have := h.2.1; omega

/-- References that may be followed. -/
def RefOk (c : Conf) (t : Nat) (ws : List Int) : Prop := ∀ s, (bHead c t ws s).2 = 0 → ∀ j : Nat, (j : Int) < (bHead c t ws s).1.r → bwd c t ws s (1 + j) ≤ (nS c t : Int)
theorem refOk_rep (c : Conf) (t n : Nat) : RefOk c t (List.replicate n 0) := by
  intro s hs
  have h := (bHead_ok hs).2.1
  have e : bwd c t (List.replicate n 0) s 0 = 0 := by
    unfold bwd nth
    by_cases q : bAt c t s 0 < n
    · simp [List.getD, q]
    · simp [List.getD, q]
  rw [e] at h
  exact absurd h hdis_zero
theorem RefOk.store (ho : KOk c) (ht : t < c.ts.length) (hl : ws.length = totalN c) (h : RefOk c t ws) {i x : Int} {ref : Bool} (hx : ref = true → x ≤ (nS c t : Int)) : RefOk c t (bStore c t ws s i ref x).1 := by
  unfold bStore
  split
  · rename_i hf
    obtain ⟨hin, j, rfl, hj⟩ := bField_in hf
    obtain ⟨q1, q2⟩ := bField_ok hf
    obtain ⟨f1, f2, f3, f4⟩ := hdfield_in q2
    rw [Int.toNat_natCast]
    intro s' hs' m hm
    have in' := (bHead_ok hs').1
    have s2 := (slotB ho ht in').s2
    have e0 : bwd c t (ws.set (bAt c t s (1 + j)) x) s' 0 = bwd c t ws s' 0 := by
      rw [bwd_set ho ht hl hin in' (by omega) (by omega), if_neg (by omega)]
    have eh := bHead_congr e0
    simp only [eh] at hs' hm
    have li := (bHead_ok hs').2.2.1.2.2
    have lw := (bHead_ok hs').2.2.1.1.2.2.1
    rw [bwd_set ho ht hl hin in' (by omega) (by omega)]
    split
    · rename_i q
      obtain ⟨rfl, q⟩ := q
      have : m = j := by omega
      subst this
      exact hx (by rw [f4]; simpa using hm)
    · exact h s' hs' m hm
  · exact h
theorem RefOk.wipe (ho : KOk c) (ht : t < c.ts.length) (hl : ws.length = totalN c) (h : RefOk c t ws) : RefOk c t (bWipe c t ws s).1 := by
  unfold bWipe
  split
  · rename_i hin
    intro s' hs' m hm
    have in' := (bHead_ok hs').1
    have s2 := (slotB ho ht in').s2
    by_cases e : s' = s
    · subst e
      have q := (bHead_ok hs').2.1
      rw [bwd_zero ho ht hl hin in' (by omega), if_pos rfl] at q
      exact absurd q hdis_zero
    · have eh := bHead_congr (c := c) (t := t) (ws := ws) (s := s') (ws' := zeroL ws (bAt c t s 0) (bSz c t s).toNat) (by rw [bwd_zero ho ht hl hin in' (by omega), if_neg e])
      simp only [eh] at hs' hm
      have li := (bHead_ok hs').2.2.1.2.2
      have lw := (bHead_ok hs').2.2.1.1.2.2.1
      rw [bwd_zero ho ht hl hin in' (by omega), if_neg e]
      exact h s' hs' m hm
  · exact h
/-- What Make leaves, where it is not refused. -/
theorem made_wd (ho : KOk c) (ht : t < c.ts.length) (hl : ws.length = totalN c) {h : Hd} (hin : bIn c t s) (in' : bIn c t s') {j : Nat} (hj : (j : Int) < bSz c t s') :
    bwd c t ((zeroL ws (bAt c t s 0) (bSz c t s).toNat).set (bAt c t s 0) (hdword h)) s' j = if s' = s then (if j = 0 then hdword h else 0) else bwd c t ws s' j := by
  have s2 := (slotB ho ht hin).s2
  rw [bwd_set ho ht (by rw [zeroL_len (zero_fit ho ht hl hin)]; exact hl) hin in' (by omega) hj, bwd_zero ho ht hl hin in' hj]
  by_cases e : s' = s
  · rw [if_pos e, if_pos e]
    by_cases e2 : j = 0
    · rw [if_pos ⟨e, e2⟩, if_pos e2]
    · rw [if_neg (by omega), if_neg e2]
  · rw [if_neg (by omega), if_neg e, if_neg e]
theorem made_head (ho : KOk c) (ht : t < c.ts.length) (hl : ws.length = totalN c) {h : Hd} (hin : bIn c t s) (hli : bLies c t s h) :
    bHead c t ((zeroL ws (bAt c t s 0) (bSz c t s).toNat).set (bAt c t s 0) (hdword h)) s = (h, 0) := by
  have s2 := (slotB ho ht hin).s2
  have e : bwd c t ((zeroL ws (bAt c t s 0) (bSz c t s).toNat).set (bAt c t s 0) (hdword h)) s 0 = hdword h := by
    rw [made_wd ho ht hl hin hin (by omega), if_pos rfl, if_pos rfl]
  have g := hdget_word hli.1
  unfold hdget at g
  have gi : hdis (hdword h) := by
    by_cases q : hdis (hdword h)
    · exact q
    · rw [if_neg q] at g; exact absurd (congrArg Prod.snd g) (by simp)
  unfold bHead
  rw [if_pos hin, e, hdraw_word hli.1, if_pos ⟨gi, hli⟩]
theorem RefOk.make (ho : KOk c) (ht : t < c.ts.length) (hl : ws.length = totalN c) {hd : Hd} (h : RefOk c t ws) : RefOk c t (bMake c t ws s hd).1 := by
  unfold bMake
  split
  · rename_i hin
    obtain ⟨hin, hli⟩ := hin
    split
    · exact h
    · intro s' hs' m hm
      have in' := (bHead_ok hs').1
      have s2 := (slotB ho ht in').s2
      have li := (bHead_ok hs').2.2.1.2.2
      have lw := (bHead_ok hs').2.2.1.1.2.2.1
      by_cases e : s' = s
      · subst e
        show bwd c t _ s' (1 + m) ≤ _
        rw [made_wd ho ht hl hin in' (by simp only at li lw hm ⊢; omega), if_pos rfl, if_neg (by omega)]
        omega
      · have eh := bHead_congr (c := c) (t := t) (ws := ws) (s := s') (ws' := (zeroL ws (bAt c t s 0) (bSz c t s).toNat).set (bAt c t s 0) (hdword hd)) (by rw [made_wd ho ht hl hin in' (by omega), if_neg e])
        simp only [eh] at hs' hm li lw
        show bwd c t _ s' (1 + m) ≤ _
        rw [made_wd ho ht hl hin in' (by omega), if_neg e]
        exact h s' hs' m hm
  · exact h
theorem RefOk.setRef (ho : KOk c) (ht : t < c.ts.length) (hl : ws.length = totalN c) (h : RefOk c t ws) {i to : Int} : RefOk c t (bSetRef c t ws s i to).1 := by
  unfold bSetRef
  split
  · exact h.store ho ht hl fun _ => by omega
  · exact h
theorem RefOk.setWord (ho : KOk c) (ht : t < c.ts.length) (hl : ws.length = totalN c) (h : RefOk c t ws) {i x : Int} : RefOk c t (bSetWord c t ws s i x).1 :=
  RefOk.store ho ht hl h fun e => by cases e

/-! ### Fields -/
variable {hd : Hd}
theorem head_lies (hh : bHead c t ws s = (hd, 0)) : bIn c t s ∧ hdok hd ∧ hd.r + hd.w + 1 ≤ bSz c t s := by
  have k := bHead_ok (c := c) (t := t) (ws := ws) (s := s) (by rw [hh])
  rw [hh] at k
  exact ⟨k.1, k.2.2.1.1, k.2.2.1.2.2⟩
theorem bField_of (hh : bHead c t ws s = (hd, 0)) (i : Int) (ref : Bool) : bField c t ws s i ref = if (0 ≤ i ∧ i < hd.r + hd.w ∧ ref = decide (i < hd.r)) then 0 else 110 := by
  have k := (head_lies hh).2.1
  unfold bField
  rw [hh, if_pos rfl]
  unfold hdfield
  rw [if_pos k]
  by_cases h1 : i < 0 ∨ hd.r + hd.w ≤ i
  · rw [if_pos h1, if_neg (by simp), if_neg (by omega)]
  · rw [if_neg h1]
    by_cases h2 : ref = decide (i < hd.r)
    · rw [if_pos (by rw [h2]), if_pos ⟨by omega, by omega, h2⟩]
    · rw [if_neg (by intro q; exact h2 (congrArg Prod.fst q).symm), if_neg (by rintro ⟨_, _, q⟩; exact h2 q)]
theorem bLoad_at (hh : bHead c t ws s = (hd, 0)) {j : Nat} {ref : Bool} (hj : (j : Int) < hd.r + hd.w) (hr : ref = decide ((j : Int) < hd.r)) : bLoad c t ws s j ref = (bwd c t ws s (1 + j), 0) := by
  unfold bLoad
  rw [if_pos (by rw [bField_of hh, if_pos ⟨by omega, hj, hr⟩]), Int.toNat_natCast]
theorem bLoad_no (hh : bHead c t ws s = (hd, 0)) {i : Int} {ref : Bool} (h : ¬ (0 ≤ i ∧ i < hd.r + hd.w ∧ ref = decide (i < hd.r))) : bLoad c t ws s i ref = (0, 110) := by
  have e : bField c t ws s i ref = 110 := by rw [bField_of hh, if_neg h]
  unfold bLoad
  rw [e]; rfl
theorem bRef_at (hh : bHead c t ws s = (hd, 0)) (hr : RefOk c t ws) {j : Nat} (hj : (j : Int) < hd.r) : bRef c t ws s j = (bwd c t ws s (1 + j) - 1, 0) := by
  have k := (head_lies hh).2.1
  have w0 := k.2.2.1
  have q := hr s (by rw [hh]) j (by rw [hh]; exact hj)
  unfold bRef
  rw [bLoad_at hh (by omega) (by simp [hj])]
  simp only [if_pos]
  rw [if_neg (by omega)]
theorem bRef_no (hh : bHead c t ws s = (hd, 0)) {i : Int} (h : i < 0 ∨ hd.r ≤ i) : bRef c t ws s i = (0, 110) := by
  unfold bRef
  rw [bLoad_no hh (by
    rintro ⟨h1, h2, h3⟩
    have : i < hd.r := by simpa using h3.symm
    omega)]
  rfl
theorem bWord_at (hh : bHead c t ws s = (hd, 0)) {j : Nat} (h1 : hd.r ≤ (j : Int)) (h2 : (j : Int) < hd.r + hd.w) : bWord c t ws s j = (bwd c t ws s (1 + j), 0) := by
  unfold bWord
  rw [bLoad_at hh h2 (by symm; rw [decide_eq_false_iff_not]; omega)]
theorem bWord_no (hh : bHead c t ws s = (hd, 0)) {i : Int} (h : i < hd.r ∨ hd.r + hd.w ≤ i) : bWord c t ws s i = (0, 110) := by
  unfold bWord
  rw [bLoad_no hh (by
    rintro ⟨h1, h2, h3⟩
    have : ¬ i < hd.r := by simpa using h3.symm
    omega)]
theorem bRefs_bad {k : Int} (hh : bHead c t ws s = (hd, k)) (hk : k ≠ 0) : bRefs c t ws s = ([], k) ∧ bWords c t ws s = ([], k) := by
  unfold bRefs bWords
  rw [hh]
  exact ⟨if_neg hk, if_neg hk⟩
theorem bRefs_full (hh : bHead c t ws s = (hd, 0)) (hr : RefOk c t ws) : ∃ xs, bRefs c t ws s = (xs, 0) ∧ xs.length = hd.r.toNat ∧ ∀ j : Nat, j < hd.r.toNat → bRef c t ws s j = (nth xs j, 0) := by
  have a := oneR_all (F := fun j => bRef c t ws s j) hd.r.toNat fun j hj => by show (bRef c t ws s j).2 = 0; rw [bRef_at hh hr (by omega)]
  refine ⟨(oneR (fun j => bRef c t ws s j) hd.r.toNat).1, ?_, oneR_len _ a, fun j hj => oneR_nth _ a j hj⟩
  unfold bRefs
  rw [hh, if_pos rfl]
  exact Prod.ext rfl a
theorem bWords_full (hh : bHead c t ws s = (hd, 0)) : ∃ ys, bWords c t ws s = (ys, 0) ∧ ys.length = hd.w.toNat ∧ ∀ j : Nat, j < hd.w.toNat → bWord c t ws s (hd.r + j) = (nth ys j, 0) := by
  have k := (head_lies hh).2.1
  have r0 := k.2.1
  have a := oneR_all (F := fun j => bWord c t ws s (hd.r + j)) hd.w.toNat fun j hj => by
    show (bWord c t ws s (hd.r + j)).2 = 0
    rw [show hd.r + (j : Int) = ((hd.r.toNat + j : Nat) : Int) by omega, bWord_at hh (by omega) (by omega)]
  refine ⟨(oneR (fun j => bWord c t ws s (hd.r + j)) hd.w.toNat).1, ?_, oneR_len _ a, fun j hj => oneR_nth _ a j hj⟩
  unfold bWords
  rw [hh, if_pos rfl]
  exact Prod.ext rfl a

end Go.Proofs.YtnbngcagnchkdaaGreatDoor

/-! commonagelaw11: references that may be followed stay so, whatever is done. -/
namespace Go.Proofs.YtnbngcagnchkdaaGreatDoor
open Go.RowKit
variable {c : Conf} {t : Nat} {ws : List Int}

theorem RefOk.act (ho : KOk c) (ht : t < c.ts.length) (hl : ws.length = totalN c) (h : RefOk c t ws) (wh s i to x : Int) (hd : Hd) : RefOk c t (actB c t ws wh s i to x hd) := by
  unfold actB
  (repeat' split)
  · exact h.setRef ho ht hl
  · exact h.setWord ho ht hl
  · exact h
  · exact h
  · exact h.wipe ho ht hl
  · exact h.make ho ht hl

end Go.Proofs.YtnbngcagnchkdaaGreatDoor
