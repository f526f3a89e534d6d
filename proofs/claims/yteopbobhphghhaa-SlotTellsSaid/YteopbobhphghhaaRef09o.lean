/-
  commonageref09: Has, Of, At.
-/
import Derived.Test.YteopbobhphghhaaRef09n
import Derived.Test.YteopbobhphghhaaSlotG
import Derived.Test.YteopbobhphghhaaLaw09g
namespace Go.Proofs.Yteopbobhphghhaa
open Go.RowKit

variable {lb lc fb fc mb mc cc t : Nat} {ca : Option Addr} {c : Conf} {w : World}
theorem KOk.nS_le (h : KOk c) (ht : t < c.ts.length) : nS c t ≤ 16384 := by
  have h1 := h.nS_eq ht
  have h2 := (h.sS_le ht (k := c.cl.length) (Nat.le_refl _)).2
  have h3 := h.cl.most
  omega

set_option maxHeartbeats 2000000 in
theorem ref09_Has {s : Int} (r : Bool) (hr : decide (0 ≤ s ∧ s < (nS c t : Int)) = r) :
    Calls Try.prog 68 #[dpv lb lc fb fc mb mc ca cc c t, .int .i64 s] w fun e w' => e = .returned (.bool r) ∧ Ext w w' := by
  unfold dpv
  have hx := (Ext.refl w).alloc (.cells #[.slice (some ⟨lb, 0, none⟩) (nS c t) lc, .slice (some ⟨fb, 0, none⟩) (nG c t) fc, .slice (some ⟨mb, 0, none⟩) (nG c t) mc, .int .i64 (wordsOf c t), .slice ca c.cl.length cc] 67)
  generalize nS c t = n at *
  by_cases h0 : 0 ≤ s
  · have t0 : decide (0 ≤ s) = true := by simpa using h0
    have t1 : decide (s < (n : Int)) = r := by rw [← hr]; simp [h0]
    clear hr h0
    go_enter Try.func68, Try.ntmps68
    go_wp2_with fail
    go_ret
    exact ⟨rfl, hx⟩
  · have t0 : decide (0 ≤ s) = false := by simpa using h0
    have t1 : false = r := by rw [← hr]; simp [h0]
    subst t1
    clear hr h0
    go_enter Try.func68, Try.ntmps68
    go_wp2_with fail
    go_ret
    exact ⟨rfl, hx⟩

/-- How many slots of class k are among the first i ones; the first one of them. -/
def cntK (c : Conf) (t k i : Nat) : Int := if (i : Int) ≤ sS c t k then 0 else if (i : Int) ≤ sS c t (k + 1) then i - sS c t k else slotsOf c t k
def fstK (c : Conf) (t k i : Nat) : Int := if (i : Int) ≤ sS c t k then 0 else sS c t k
theorem kOf_eq {k i : Nat} (ho : KOk c) (ht : t < c.ts.length) (hk : k < c.cl.length) (hi : i < nS c t) : kOf c t (i : Int) = k ↔ (sS c t k ≤ (i : Int) ∧ (i : Int) < sS c t (k + 1)) := by
  have hn := ho.nS_eq ht
  obtain ⟨j, hj⟩ := atClass_find (c := c) (t := t) (s := (i : Int)) (Int.natCast_nonneg _) (by omega)
  rw [hj.kOf ho ht]
  constructor
  · rintro rfl; exact ⟨hj.lo, hj.hi⟩
  · intro h; exact hj.uniq ho ht ⟨hk, h.1, h.2⟩

set_option maxHeartbeats 4000000 in
theorem ref09_Of {k : Nat} (h : DPlan w lb fb mb ca c t) (hk : k < c.cl.length) :
    Calls Try.prog 29 #[dpv lb lc fb fc mb mc ca cc c t, .int .i64 k] w fun e w' => e = .returned (.tuple #[.int .i64 (sS c t k), .int .i64 (slotsOf c t k), .int .i64 0]) ∧ Ext w w' := by
  have ho := h.ok; have ht := h.ti
  have nb := ho.nS_le ht
  have hn := ho.nS_eq ht
  have c8 := ho.cl.most
  have bd := ho.bounds ht hk
  have s1 := bd.s1; have s2 := bd.s2048
  have m1 := sS_mono ho ht (a := k + 1) (b := c.cl.length) (by omega) (Nat.le_refl _)
  have sk := (ho.sS_le ht (k := k) (by omega)).1
  have e1 : sS c t (k + 1) = sS c t k + slotsOf c t k := rfl
  have KE := Lib.hid (fun i (hi : i < nS c t) => kOf_eq ho ht hk hi)
  have HL := Lib.hid h.l
  have EC : Hid (cntK c t k (nS c t) = slotsOf c t k ∧ fstK c t k (nS c t) = sS c t k) := Lib.hid (by unfold cntK fstK; constructor <;> (split <;> (try split) <;> omega))
  have E0 : Hid (cntK c t k 0 = 0 ∧ fstK c t k 0 = 0) := Lib.hid (by unfold cntK fstK; constructor <;> (repeat' split) <;> omega)
  have ES : Hid (∀ i : Nat, sS c t k ≤ (i : Int) → (i : Int) < sS c t (k + 1) → 0 ≤ cntK c t k i ∧ cntK c t k i ≤ 2048 ∧ cntK c t k (i + 1) = cntK c t k i + 1 ∧ fstK c t k (i + 1) = sS c t k ∧ ((cntK c t k i = 0 ∧ (i : Int) = sS c t k) ∨ (0 < cntK c t k i ∧ fstK c t k i = sS c t k))) := Lib.hid fun i h1 h2 => by
    unfold cntK fstK
    refine ⟨?_, ?_, ?_, ?_, ?_⟩ <;> (repeat' split) <;> omega
  have EN : Hid (∀ i : Nat, ¬ (sS c t k ≤ (i : Int) ∧ (i : Int) < sS c t (k + 1)) → cntK c t k (i + 1) = cntK c t k i ∧ fstK c t k (i + 1) = fstK c t k i) := Lib.hid fun i h1 => by
    unfold cntK fstK
    constructor <;> (repeat' split) <;> omega
  unfold dpv
  obtain ⟨z, hz⟩ : ∃ z, w.heap.size = z := ⟨_, rfl⟩
  have hx := (Ext.refl w).alloc (.cells #[.slice (some ⟨lb, 0, none⟩) (nS c t) lc, .slice (some ⟨fb, 0, none⟩) (nG c t) fc, .slice (some ⟨mb, 0, none⟩) (nG c t) mc, .int .i64 (wordsOf c t), .slice ca c.cl.length cc] 67)
  have t0 : decide ((k : Int) < 0) = false := by simp
  have t1 : decide (c.cl.length ≤ k) = false := by simp; omega
  clear h ho ht bd m1 e1
  go_enter Try.func29, Try.ntmps29
  go_wp2_with fail
  go_loop [7, 8, 9] (fun fv mv iv => ∃ i : Nat, i ≤ nS c t ∧ iv = .int .i64 i ∧ fv = .int .i64 (fstK c t k i) ∧ mv = .int .i64 (cntK c t k i)) (fun _ _ iv => nS c t - (intOf iv).toNat)
  case atStart => exact ⟨0, Nat.zero_le _, rfl, by rw [E0.out.2], by rw [E0.out.1]⟩
  case round =>
    obtain ⟨i, hi, rfl, rfl, rfl⟩ := hrel
    by_cases hlt : i < nS c t
    · have ci := hx.cell (HL.out i hlt 0 _ rfl)
      rw [Nat.add_zero] at ci
      by_cases hin : sS c t k ≤ (i : Int) ∧ (i : Int) < sS c t (k + 1)
      · have ek := (KE.out i hlt).2 hin
        rw [ek] at ci
        obtain ⟨a1, a2, a3, a4, a5⟩ := ES.out i hin.1 hin.2
        have A3 := Lib.hid a3; have A4 := Lib.hid a4
        clear a3 a4 ek hin
        rcases a5 with ⟨h0, h1⟩ | ⟨h0, h1⟩
        · have tz : (cntK c t k i == 0) = true := by simp [h0]
          have H1 := Lib.hid h1
          clear h0 h1
          generalize cntK c t k i = m at *
          generalize fstK c t k i = f at *
          go_wp2_with fail
          go_round
          case rel => exact ⟨i + 1, by omega, by go_num, by rw [A4.out, H1.out], by rw [A3.out]⟩
          case measure => simp [intOf]; omega
        · have tz : (cntK c t k i == 0) = false := by simp; omega
          have H1 := Lib.hid h1
          clear h0 h1
          generalize cntK c t k i = m at *
          generalize fstK c t k i = f at *
          go_wp2_with fail
          go_round
          case rel => exact ⟨i + 1, by omega, by go_num, by rw [A4.out, H1.out], by rw [A3.out]⟩
          case measure => simp [intOf]; omega
      · have ek : ((kOf c t (i : Int) : Nat) : Int) ≠ (k : Int) := fun e => hin ((KE.out i hlt).1 (by omega))
        have tk : (((kOf c t (i : Int) : Nat) : Int) == (k : Int)) = false := by simpa using ek
        have A := Lib.hid (EN.out i hin)
        clear ek hin
        generalize kOf c t (i : Int) = kk at *
        generalize cntK c t k i = m at *
        generalize fstK c t k i = f at *
        go_wp2_with fail
        go_round
        case rel => exact ⟨i + 1, by omega, by go_num, by rw [A.out.2], by rw [A.out.1]⟩
        case measure => simp [intOf]; omega
    · obtain rfl : i = nS c t := by omega
      rw [EC.out.1, EC.out.2]
      go_wp2_with fail
      go_ret3
      exact ⟨rfl, hx⟩

set_option maxHeartbeats 2000000 in
theorem ref09_Of_no {k : Int} (h : DPlan w lb fb mb ca c t) (hk : k < 0 ∨ (c.cl.length : Int) ≤ k) :
    Calls Try.prog 29 #[dpv lb lc fb fc mb mc ca cc c t, .int .i64 k] w fun e w' => e = .returned (.tuple #[.int .i64 0, .int .i64 0, .int .i64 2]) ∧ Ext w w' := by
  have c8 := h.ok.cl.most
  unfold dpv
  have hx := (Ext.refl w).alloc (.cells #[.slice (some ⟨lb, 0, none⟩) (nS c t) lc, .slice (some ⟨fb, 0, none⟩) (nG c t) fc, .slice (some ⟨mb, 0, none⟩) (nG c t) mc, .int .i64 (wordsOf c t), .slice ca c.cl.length cc] 67)
  clear h
  by_cases h0 : k < 0
  · have t0 : decide (k < 0) = true := by simpa using h0
    clear hk
    go_enter Try.func29, Try.ntmps29
    go_wp2_with fail
    go_ret3
    exact ⟨rfl, hx⟩
  · have t0 : decide (k < 0) = false := by simpa using h0
    have t1 : decide ((c.cl.length : Int) ≤ k) = true := by simp; omega
    clear hk
    go_enter Try.func29, Try.ntmps29
    go_wp2_with fail
    go_ret3
    exact ⟨rfl, hx⟩

/-- The slot at an address. -/
def adrOf (c : Conf) (t : Nat) (s : Nat) : Int := addrOf c t (s : Int) (kOf c t (s : Int))
def AtR (c : Conf) (t : Nat) (a r q : Int) : Prop := (q = 0 ∧ ∃ s : Nat, r = s ∧ s < nS c t ∧ adrOf c t s = a) ∨ (q = 7 ∧ r = 0 ∧ ∀ s : Nat, s < nS c t → adrOf c t s ≠ a)
theorem slot_at (ho : KOk c) (ht : t < c.ts.length) {s : Nat} (h : s < nS c t) : AtClass c t (s : Int) (kOf c t (s : Int)) := by
  have hn := ho.nS_eq ht
  obtain ⟨j, hj⟩ := atClass_find (c := c) (t := t) (s := (s : Int)) (Int.natCast_nonneg _) (by omega)
  rw [hj.kOf ho ht]; exact hj
theorem adr_lt (ho : KOk c) (ht : t < c.ts.length) {s s' : Nat} (h : s < s') (h' : s' < nS c t) : adrOf c t s < adrOf c t s' := by
  have h1 := slot_at ho ht (s := s) (by omega)
  have h2 := slot_at ho ht h'
  have := slots_apart ho ht h1 h2 (by omega)
  have := (ho.bounds ht h1.lt).c2
  unfold adrOf; omega
theorem adr_inj (ho : KOk c) (ht : t < c.ts.length) {s s' : Nat} (h : s < nS c t) (h' : s' < nS c t) (e : adrOf c t s = adrOf c t s') : s = s' := by
  rcases Nat.lt_trichotomy s s' with g | g | g
  · have := adr_lt ho ht g h'; omega
  · exact g
  · have := adr_lt ho ht g h; omega

set_option maxHeartbeats 4000000 in
theorem ref09_At {a r q : Int} (h : DPlan w lb fb mb ca c t) (hr : AtR c t a r q) :
    Calls Try.prog 27 #[dpv lb lc fb fc mb mc ca cc c t, .int .i64 a] w fun e w' => e = .returned (.tuple #[.int .i64 r, .int .i64 q]) ∧ Ext w w' := by
  have nb := h.ok.nS_le h.ti
  have INJ := Lib.hid (fun (s s' : Nat) => adr_inj (s := s) (s' := s') h.ok h.ti)
  have HL : Hid (∀ s, s < nS c t → w.cell? ⟨lb, s * 4 + 2, none⟩ = some (.int .i64 (adrOf c t s))) := Lib.hid fun s hs => h.l s hs 2 _ rfl
  have HR := Lib.hid hr
  unfold dpv
  obtain ⟨z, hz⟩ : ∃ z, w.heap.size = z := ⟨_, rfl⟩
  have hx := (Ext.refl w).alloc (.cells #[.slice (some ⟨lb, 0, none⟩) (nS c t) lc, .slice (some ⟨fb, 0, none⟩) (nG c t) fc, .slice (some ⟨mb, 0, none⟩) (nG c t) mc, .int .i64 (wordsOf c t), .slice ca c.cl.length cc] 67)
  clear h hr
  go_enter Try.func27, Try.ntmps27
  go_wp2_with fail
  go_loop [6] (fun iv => ∃ i : Nat, i ≤ nS c t ∧ iv = .int .i64 i ∧ Hid (∀ s : Nat, s < i → adrOf c t s ≠ a)) (fun iv => nS c t - (intOf iv).toNat)
  case atStart => exact ⟨0, Nat.zero_le _, rfl, fun s hs => absurd hs (Nat.not_lt_zero _)⟩
  case round =>
    obtain ⟨i, hi, rfl, HJ⟩ := hrel
    by_cases hlt : i < nS c t
    · have ci := hx.cell (HL.out i hlt)
      by_cases he : adrOf c t i = a
      · have hri : r = i ∧ q = 0 := by
          rcases HR.out with ⟨h0, s, h1, h2, h3⟩ | ⟨_, _, h3⟩
          · have := INJ.out s i h2 hlt (by omega)
            exact ⟨by omega, h0⟩
          · exact absurd he (h3 i hlt)
        obtain ⟨rfl, rfl⟩ := hri
        rw [he] at ci
        clear he
        go_wp2_with fail
        go_ret2
        exact ⟨rfl, hx⟩
      · have te : (adrOf c t i == a) = false := by simpa using he
        have HE := Lib.hid he
        clear he
        generalize hv : adrOf c t i = v at *
        have HV := Lib.hid hv
        clear hv
        go_wp2_with fail
        go_round
        case rel => exact ⟨i + 1, by omega, by go_num, fun s hs => by
          rcases Nat.lt_or_ge s i with g | g
          · exact HJ s g
          · obtain rfl : s = i := by omega
            rw [HV.out]; exact HE.out⟩
        case measure => simp [intOf]; omega
    · obtain rfl : i = nS c t := by omega
      have hri : r = 0 ∧ q = 7 := by
        rcases HR.out with ⟨_, s, _, h2, h3⟩ | ⟨h0, h1, _⟩
        · exact absurd h3 (HJ s h2)
        · exact ⟨h1, h0⟩
      obtain ⟨rfl, rfl⟩ := hri
      go_wp2_with fail
      go_ret2
      exact ⟨rfl, hx⟩

/-- An address asked of both. -/
theorem slot_AtX {b gp : Nat} {a : Int} (h : PlanAt w b gp c t) :
    ∃ r q, (Calls Try.prog 26 #[.pointer (some ⟨b, 0, none⟩), .int .i64 a] w fun e w' => e = .returned (.tuple #[.int .i64 r, .int .i64 q]) ∧ Ext w w') ∧ AtR c t a r q := by
  have ho := h.ok; have ht := h.ti
  have hn := ho.nS_eq ht
  have no : (∀ s k, AtClass c t s k → addrOf c t s k ≠ a) → ∀ s : Nat, s < nS c t → adrOf c t s ≠ a := fun hh s hs => hh _ _ (slot_at ho ht hs)
  by_cases hr : 0 ≤ a ∧ a < sG c t c.cl.length * c.page
  · have pg := h.pg2
    obtain ⟨k, hk⟩ := atPage_find (c := c) (t := t) (s := a / c.page) (Int.ediv_nonneg hr.1 (by omega)) (by rw [Int.ediv_lt_iff_lt_mul (by omega)]; exact hr.2)
    have m1 := (page_slots ho ht hk).1
    have hN : manyP c t (a / c.page) k = ((manyP c t (a / c.page) k).toNat : Nat) := by omega
    rcases addr_cases ho ht rfl hk hN with ⟨s, hs, he, hat⟩ | ⟨hno, hat⟩
    · refine ⟨s, 0, slot_At h hr.1 hr.2 rfl hk hN hat, .inl ⟨rfl, s.toNat, ?_, ?_, ?_⟩⟩
      · have h1 := (ho.sS_le ht (k := k) (by have := hk.lt; omega)).1; have h2 := hs.lo; omega
      · have h1 := (ho.sS_le ht (k := k) (by have := hk.lt; omega)).1; have h2 := hs.lo; have h3 := hs.hi
        have h4 := sS_mono ho ht (a := k + 1) (b := c.cl.length) hs.lt (Nat.le_refl _)
        omega
      · have h1 := (ho.sS_le ht (k := k) (by have := hk.lt; omega)).1; have h2 := hs.lo
        unfold adrOf
        rw [Int.toNat_of_nonneg (by omega), hs.kOf ho ht]; exact he
    · exact ⟨0, 7, slot_At h hr.1 hr.2 rfl hk hN hat, .inr ⟨rfl, rfl, no hno⟩⟩
  · refine ⟨0, 7, slot_At_no h (by omega), .inr ⟨rfl, rfl, no fun s k hs e => ?_⟩⟩
    have := slots_within ho ht hs
    have := (ho.bounds ht hs.lt).c2
    omega

end Go.Proofs.Yteopbobhphghhaa
