/-
  The plain law of commonagelaw06.ConfApart: a configuration whose other tenants are another one. No program is named here.
-/
import Derived.Test.YtmjgmgaklgcdnaaConfP
namespace Go.Proofs.Ytmjgmgaklgcdnaa

/-- The tenants below k, but t's, are x. -/
def othTo (t : Nat) (x : Ten) (ts : List Ten) (k : Nat) : List Ten := (List.range ts.length).map fun j => if j < k ∧ j ≠ t then x else tnth ts j
theorem othTo_len (t : Nat) (x : Ten) (ts : List Ten) (k : Nat) : (othTo t x ts k).length = ts.length := by unfold othTo; simp
theorem othTo_nth {t : Nat} {x : Ten} {ts : List Ten} {k j : Nat} (h : j < ts.length) : tnth (othTo t x ts k) j = if j < k ∧ j ≠ t then x else tnth ts j := by
  unfold othTo tnth; simp [List.getD, h]
theorem tnth_ext {a b : List Ten} (h : a.length = b.length) (he : ∀ i, i < a.length → tnth a i = tnth b i) : a = b := by
  refine List.ext_getElem h fun i h1 h2 => ?_
  have := he i h1
  simpa [tnth, List.getD, h1, h2] using this
theorem othTo_zero (t : Nat) (x : Ten) (ts : List Ten) : othTo t x ts 0 = ts := tnth_ext (othTo_len _ _ _ _) fun i hi => by
  rw [othTo_len] at hi
  rw [othTo_nth hi, if_neg (by omega)]
theorem othTo_same {t : Nat} {x : Ten} {ts : List Ten} {k : Nat} (h : k = t) : othTo t x ts (k + 1) = othTo t x ts k := tnth_ext (by rw [othTo_len, othTo_len]) fun i hi => by
  rw [othTo_len] at hi
  rw [othTo_nth hi, othTo_nth hi]
  by_cases e : i < k ∧ i ≠ t
  · rw [if_pos e, if_pos (by omega)]
  · rw [if_neg e, if_neg (by omega)]
theorem othTo_set {t : Nat} {x : Ten} {ts : List Ten} {k : Nat} (h : k ≠ t) (hk : k < ts.length) : othTo t x ts (k + 1) = (othTo t x ts k).set k x := tnth_ext (by rw [List.length_set, othTo_len, othTo_len]) fun i hi => by
  rw [othTo_len] at hi
  have e : tnth ((othTo t x ts k).set k x) i = if k = i then x else tnth (othTo t x ts k) i := by
    unfold tnth
    have hl : i < (othTo t x ts k).length := by rw [othTo_len]; exact hi
    by_cases e : k = i
    · subst e; simp [List.getD, hl]
    · simp [List.getD, e]
  rw [e, othTo_nth hi, othTo_nth hi]
  by_cases e1 : k = i
  · subst e1; rw [if_pos rfl, if_pos (by omega)]
  · rw [if_neg e1]
    by_cases e2 : i < k ∧ i ≠ t
    · rw [if_pos e2, if_pos (by omega)]
    · rw [if_neg e2, if_neg (by omega)]

def others (c : Conf) (t : Nat) (x : Ten) : Conf := { c with ts := othTo t x c.ts c.ts.length }
theorem others_words {c : Conf} {t : Nat} (ht : t < c.ts.length) (x : Ten) : wordsOf (others c t x) t = wordsOf c t := by
  unfold wordsOf
  refine sumTo_congr _ fun i _ => ?_
  have e : tnth (others c t x).ts t = tnth c.ts t := by
    show tnth (othTo t x c.ts c.ts.length) t = _
    rw [othTo_nth ht, if_neg (by omega)]
  unfold pagesOf slotsOf perOf
  rw [e]; rfl
theorem others_region {c : Conf} {t : Nat} (ht : t < c.ts.length) {x : Ten} (h0 : kcheck c = 0) (h1 : kcheck (others c t x) = 0) (hc : 0 < c.cl.length) : kregion (others c t x) t = kregion c t := by
  have hl : (others c t x).ts.length = c.ts.length := othTo_len _ _ _ _
  rw [kregion_yes (c := others c t x) (there_mk (j := 0) h1 (by omega) hc), kregion_yes (there_mk (j := 0) h0 ht hc), others_words ht]

end Go.Proofs.Ytmjgmgaklgcdnaa
