/-
  The statements on classes: the walks of commonagelaw05's awake, ClassTells, ClassRounds, ClassEach.
-/
import Derived.Test.YtcnaabkimgkpbaaRef05
import Derived.Test.YtcnaabkimgkpbaaLaw05P
namespace Go.Proofs.Ytcnaabkimgkpbaa
open Go.RowKit

theorem At.new (k : IntKind) (w : World) (xs : List Int) (t : TypeId) : At k (w.alloc (.cells (xs.map (Value.int k)).toArray t)) (some ⟨w.heap.size, 0, none⟩) xs := by
  refine At.mk fun i hi => ?_
  rw [Nat.zero_add, cell_newN]
  simp [nth, List.getD, hi]

/-- The same contracts, the length and the answer by name. -/
theorem class_Of' {a : Option Addr} {cap : Nat} (xs : List Int) (n : Nat) (words p q : Int) {w : World} (hn : xs.length = n) (hpq : cof xs words = (p, q)) (h : At .i64 w a xs) (hl : xs.length ≤ maxLen) :
    Calls Try.prog 12 #[.slice a n cap, .int .i64 words] w fun e w' => e = .returned (.tuple #[.int .i64 p, .int .i64 q]) ∧ Ext w w' := by
  have := class_Of a cap xs words w h hl; rw [hpq, hn] at this; exact this
theorem class_Round' {a : Option Addr} {cap : Nat} (xs : List Int) (n : Nat) (words p q : Int) {w : World} (hn : xs.length = n) (hpq : cround xs words = (p, q)) (h : At .i64 w a xs) (hl : xs.length ≤ maxLen) :
    Calls Try.prog 14 #[.slice a n cap, .int .i64 words] w fun e w' => e = .returned (.tuple #[.int .i64 p, .int .i64 q]) ∧ Ext w w' := by
  have := class_Round a cap xs words w h hl; rw [hpq, hn] at this; exact this
theorem class_Waste' {a : Option Addr} {cap : Nat} (xs : List Int) (n : Nat) (words p q : Int) {w : World} (hn : xs.length = n) (hpq : cwaste xs words = (p, q)) (h : At .i64 w a xs) (hl : xs.length ≤ maxLen) :
    Calls Try.prog 16 #[.slice a n cap, .int .i64 words] w fun e w' => e = .returned (.tuple #[.int .i64 p, .int .i64 q]) ∧ Ext w w' := by
  have := class_Waste a cap xs words w h hl; rw [hpq, hn] at this; exact this
theorem class_Check' {a : Option Addr} {cap : Nat} (xs : List Int) (n : Nat) (p : Int) {w : World} (hn : xs.length = n) (hp : ccheck xs = p) (h : At .i64 w a xs) (hl : xs.length ≤ maxLen) :
    Calls Try.prog 18 #[.slice a n cap] w fun e w' => e = .returned (.int .i64 p) ∧ Ext w w' := by
  have := class_Check a cap xs w h hl; rw [hp, hn] at this; exact this.mono fun _ _ ⟨he, hw⟩ => ⟨he, hw ▸ Ext.refl _⟩
theorem ref05_Of' {a : Option Addr} {cap : Nat} (xs : List Int) (n : Nat) (words p q : Int) {w : World} (hn : xs.length = n) (hpq : cof xs words = (p, q)) (h : At .i64 w a xs) (hl : xs.length ≤ maxLen) :
    Calls Try.prog 13 #[.slice a n cap, .int .i64 words] w fun e w' => e = .returned (.tuple #[.int .i64 p, .int .i64 q]) ∧ Ext w w' := by
  have := ref05_Of a cap xs words w h hl; rw [hpq, hn] at this; exact this
theorem ref05_Round' {a : Option Addr} {cap : Nat} (xs : List Int) (n : Nat) (words p q : Int) {w : World} (hn : xs.length = n) (hpq : cround xs words = (p, q)) (h : At .i64 w a xs) (hl : xs.length ≤ maxLen) :
    Calls Try.prog 15 #[.slice a n cap, .int .i64 words] w fun e w' => e = .returned (.tuple #[.int .i64 p, .int .i64 q]) ∧ Ext w w' := by
  have := ref05_Round a cap xs words w h hl; rw [hpq, hn] at this; exact this
theorem ref05_Waste' {a : Option Addr} {cap : Nat} (xs : List Int) (n : Nat) (words p q : Int) {w : World} (hn : xs.length = n) (hpq : cwaste xs words = (p, q)) (h : At .i64 w a xs) (hl : xs.length ≤ maxLen) :
    Calls Try.prog 17 #[.slice a n cap, .int .i64 words] w fun e w' => e = .returned (.tuple #[.int .i64 p, .int .i64 q]) ∧ Ext w w' := by
  have := ref05_Waste a cap xs words w h hl; rw [hpq, hn] at this; exact this
theorem ref05_Check' {a : Option Addr} {cap : Nat} (xs : List Int) (n : Nat) (p : Int) {w : World} (hn : xs.length = n) (hp : ccheck xs = p) (h : At .i64 w a xs) (hl : xs.length ≤ maxLen) :
    Calls Try.prog 19 #[.slice a n cap] w fun e w' => e = .returned (.int .i64 p) ∧ Ext w w' := by
  have := ref05_Check a cap xs w h hl; rw [hp, hn] at this; exact this

set_option maxHeartbeats 2000000 in
theorem law05_awake (w : World) : Calls Try.prog 11 #[] w fun e w' => e = .returned (.bool true) ∧ Ext w w' := by
  go_enter Try.func11, Try.ntmps11
  go_wp2_with fail
  have hA := At.new .i64 w [2, 4, 8] 3
  have hx := (Ext.refl w).alloc (.cells #[.int .i64 2, .int .i64 4, .int .i64 8] 3)
  refine (class_Of' [2, 4, 8] 3 3 1 0 rfl (by decide) hA (by decide)).mono ?_
  rintro e w1 ⟨rfl, h1⟩
  replace hA := hA.ext h1
  replace hx := hx.trans h1
  clear h1
  go_wp2_with fail
  refine (class_Of' [2, 4, 8] 3 9 0 50 rfl (by decide) hA (by decide)).mono ?_
  rintro e w2 ⟨rfl, h1⟩
  replace hA := hA.ext h1
  replace hx := hx.trans h1
  clear h1
  go_wp2_with fail
  refine (class_Of' [2, 4, 8] 3 0 0 50 rfl (by decide) hA (by decide)).mono ?_
  rintro e w3 ⟨rfl, h1⟩
  replace hA := hA.ext h1
  replace hx := hx.trans h1
  clear h1
  go_wp2_with fail
  refine (class_Round' [2, 4, 8] 3 5 8 0 rfl (by decide) hA (by decide)).mono ?_
  rintro e w4 ⟨rfl, h1⟩
  replace hA := hA.ext h1
  replace hx := hx.trans h1
  clear h1
  go_wp2_with fail
  refine (class_Waste' [2, 4, 8] 3 5 3 0 rfl (by decide) hA (by decide)).mono ?_
  rintro e w5 ⟨rfl, h1⟩
  replace hx := hx.trans h1
  clear h1 hA
  go_wp2_with fail
  have hA := At.new .i64 w5 [4, 4] 3
  replace hx := hx.alloc (.cells #[.int .i64 4, .int .i64 4] 3)
  refine (class_Check' [4, 4] 2 2 rfl (by decide) hA (by decide)).mono ?_
  rintro e w6 ⟨rfl, h1⟩
  replace hx := hx.trans h1
  clear h1 hA
  go_wp2_with fail
  have hA := At.new .i64 w6 [2, 65] 3
  replace hx := hx.alloc (.cells #[.int .i64 2, .int .i64 65] 3)
  refine (class_Check' [2, 65] 2 2 rfl (by decide) hA (by decide)).mono ?_
  rintro e w7 ⟨rfl, h1⟩
  replace hx := hx.trans h1
  clear h1 hA
  go_wp2_with fail
  go_ret
  exact ⟨rfl, hx⟩

set_option maxHeartbeats 2000000 in
theorem law05_ClassTells (a : Option Addr) (cap : Nat) (xs : List Int) (words : Int) (w : World) (h : At .i64 w a xs) (hl : xs.length ≤ maxLen) :
    Calls Try.prog 3 #[.slice a xs.length cap, .int .i64 words] w fun e w' => e = .returned (.bool true) ∧ Ext w w' := by
  have hl' := hl
  unfold maxLen at hl'
  by_cases h50 : 50 < xs.length
  · clear h
    go_enter Try.func3, Try.ntmps3
    go_wp2_with fail
    refine (law05_awake _).mono ?_
    rintro e w1 ⟨rfl, h1⟩
    go_wp2_with fail
    go_ret
    exact ⟨rfl, h1⟩
  · obtain ⟨p1, q1, e1⟩ : ∃ p q, cof xs words = (p, q) := ⟨_, _, rfl⟩
    obtain ⟨p2, q2, e2⟩ : ∃ p q, cround xs words = (p, q) := ⟨_, _, rfl⟩
    obtain ⟨p3, q3, e3⟩ : ∃ p q, cwaste xs words = (p, q) := ⟨_, _, rfl⟩
    obtain ⟨p4, e4⟩ : ∃ p, ccheck xs = p := ⟨_, rfl⟩
    have E1 := Lib.hid e1; have E2 := Lib.hid e2; have E3 := Lib.hid e3; have E4 := Lib.hid e4
    clear e1 e2 e3 e4
    have H := Lib.hid h
    clear h
    go_enter Try.func3, Try.ntmps3
    go_wp2_with fail
    refine (class_Of' xs _ words p1 q1 rfl E1.out H.out hl).mono ?_
    rintro e w1 ⟨rfl, h1⟩
    go_wp2_with fail
    refine (ref05_Of' xs _ words p1 q1 rfl E1.out (H.out.ext h1) hl).mono ?_
    rintro e w2 ⟨rfl, h2⟩
    replace h1 := h1.trans h2
    clear h2
    go_wp2_with fail
    refine (class_Round' xs _ words p2 q2 rfl E2.out (H.out.ext h1) hl).mono ?_
    rintro e w3 ⟨rfl, h2⟩
    replace h1 := h1.trans h2
    clear h2
    go_wp2_with fail
    refine (ref05_Round' xs _ words p2 q2 rfl E2.out (H.out.ext h1) hl).mono ?_
    rintro e w4 ⟨rfl, h2⟩
    replace h1 := h1.trans h2
    clear h2
    go_wp2_with fail
    refine (class_Waste' xs _ words p3 q3 rfl E3.out (H.out.ext h1) hl).mono ?_
    rintro e w5 ⟨rfl, h2⟩
    replace h1 := h1.trans h2
    clear h2
    go_wp2_with fail
    refine (ref05_Waste' xs _ words p3 q3 rfl E3.out (H.out.ext h1) hl).mono ?_
    rintro e w6 ⟨rfl, h2⟩
    replace h1 := h1.trans h2
    clear h2
    go_wp2_with fail
    refine (class_Check' xs _ p4 rfl E4.out (H.out.ext h1) hl).mono ?_
    rintro e w7 ⟨rfl, h2⟩
    replace h1 := h1.trans h2
    clear h2
    go_wp2_with fail
    refine (ref05_Check' xs _ p4 rfl E4.out (H.out.ext h1) hl).mono ?_
    rintro e w8 ⟨rfl, h2⟩
    replace h1 := h1.trans h2
    clear h2
    go_wp2_with fail
    refine (law05_awake _).mono ?_
    rintro e w9 ⟨rfl, h2⟩
    replace h1 := h1.trans h2
    clear h2
    go_wp2_with fail
    go_ret
    exact ⟨rfl, h1⟩

set_option maxHeartbeats 2000000 in
theorem law05_ClassRounds (a : Option Addr) (cap : Nat) (xs : List Int) (u v : Int) (w : World) (h : At .i64 w a xs) (hl : xs.length ≤ maxLen) :
    Calls Try.prog 4 #[.slice a xs.length cap, .int .i64 u, .int .i64 v] w fun e w' => e = .returned (.bool true) ∧ Ext w w' := by
  have hl' := hl
  unfold maxLen at hl'
  by_cases h50 : 50 < xs.length
  · clear h
    have h1 := Ext.refl w
    go_enter Try.func4, Try.ntmps4
    go_wp2_with fail
    refine (law05_awake _).mono ?_
    rintro e w1 ⟨rfl, h2⟩
    replace h1 := h1.trans h2
    clear h2
    go_wp2_with fail
    go_ret
    exact ⟨rfl, h1⟩
  · have hb := h50
    obtain ⟨lo, hlo⟩ : ∃ q, (if v < u then v else u) = q := ⟨_, rfl⟩
    obtain ⟨hi, hhi⟩ : ∃ q, (if u < v then v else u) = q := ⟨_, rfl⟩
    have hlh : lo ≤ hi := by rw [← hlo, ← hhi]; split <;> split <;> omega
    obtain ⟨x, e, e1⟩ : ∃ p q, cround xs lo = (p, q) := ⟨_, _, rfl⟩
    obtain ⟨y, f, e2⟩ : ∃ p q, cround xs hi = (p, q) := ⟨_, _, rfl⟩
    have E1 := Lib.hid e1; have E2 := Lib.hid e2; have H := Lib.hid h; clear e1 e2 h
    have h1 := Ext.refl w
    by_cases he : e = 0
    · subst he
      obtain ⟨r, R⟩ := cround_facts E1.out
      obtain ⟨b, o, rfl, hc⟩ := H.out.pos (by have := R.lt; omega)
      have hcr := hc _ R.lt
      have hcp : 0 < r → ∃ p, w.cell? ⟨b, o + (r - 1), none⟩ = some (.int .i64 p) ∧ p < lo ∧ 2 ≤ p := fun h0 => ⟨_, hc _ (by have := R.lt; omega), R.prev h0⟩
      rw [R.at_] at hcr
      have HR := Lib.hid R
      have r1 := R.lt; have r2 := R.le; have r3 := R.pos; have r4 := R.top
      clear hc R
      have hy : f = 0 → x ≤ y := fun h0 => by subst h0; exact cround_mono E1.out E2.out hlh
      have hfin : (f = 0 ∧ x ≤ y) ∨ (f != 0) = true := by
        by_cases h0 : f = 0
        · exact .inl ⟨h0, hy h0⟩
        · exact .inr (by simpa using h0)
      clear hy
      rcases Nat.eq_zero_or_pos r with hr0 | hr0
      · have hd0 : decide (0 < r) = false := by simp; omega
        clear hcp hr0
        go_enter Try.func4, Try.ntmps4
        go_wp2_with fail
        refine (class_Round' xs _ _ x 0 rfl E1.out H.out hl).mono ?_
        rintro e w2 ⟨rfl, h2⟩
        replace h1 := h1.trans h2
        clear h2
        go_wp2_with fail
        refine (class_Round' xs _ _ y f rfl E2.out (H.out.ext h1) hl).mono ?_
        rintro e w3 ⟨rfl, h2⟩
        replace h1 := h1.trans h2
        clear h2
        go_wp2_with fail
        refine (class_Round' xs _ _ x 0 rfl HR.out.again (H.out.ext h1) hl).mono ?_
        rintro e w4 ⟨rfl, h2⟩
        replace h1 := h1.trans h2
        clear h2
        go_wp2_with fail
        refine (class_Of' xs _ _ _ 0 rfl HR.out.of (H.out.ext h1) hl).mono ?_
        rintro e w5 ⟨rfl, h2⟩
        replace h1 := h1.trans h2
        clear h2
        go_wp2_with fail
        refine (class_Waste' xs _ _ _ 0 rfl HR.out.waste (H.out.ext h1) hl).mono ?_
        rintro e w10 ⟨rfl, h2⟩
        replace h1 := h1.trans h2
        clear h2
        have hcr1 := h1.cell hcr
        clear hcr
        rcases hfin with ⟨rfl, hxy⟩ | hf
        all_goals
          go_wp2_with fail
          refine (law05_awake _).mono ?_
          rintro e w6 ⟨rfl, h2⟩
          replace h1 := h1.trans h2
          clear h2
          go_wp2_with fail
          go_ret
          exact ⟨rfl, h1⟩
      · obtain ⟨p, hcp, hpl, hp2⟩ := hcp hr0
        go_enter Try.func4, Try.ntmps4
        go_wp2_with fail
        refine (class_Round' xs _ _ x 0 rfl E1.out H.out hl).mono ?_
        rintro e w7 ⟨rfl, h2⟩
        replace h1 := h1.trans h2
        clear h2
        go_wp2_with fail
        refine (class_Round' xs _ _ y f rfl E2.out (H.out.ext h1) hl).mono ?_
        rintro e w8 ⟨rfl, h2⟩
        replace h1 := h1.trans h2
        clear h2
        go_wp2_with fail
        refine (class_Round' xs _ _ x 0 rfl HR.out.again (H.out.ext h1) hl).mono ?_
        rintro e w9 ⟨rfl, h2⟩
        replace h1 := h1.trans h2
        clear h2
        go_wp2_with fail
        refine (class_Of' xs _ _ _ 0 rfl HR.out.of (H.out.ext h1) hl).mono ?_
        rintro e w10 ⟨rfl, h2⟩
        replace h1 := h1.trans h2
        clear h2
        go_wp2_with fail
        refine (class_Waste' xs _ _ _ 0 rfl HR.out.waste (H.out.ext h1) hl).mono ?_
        rintro e w10 ⟨rfl, h2⟩
        replace h1 := h1.trans h2
        clear h2
        have hcr1 := h1.cell hcr
        have hcp1 := h1.cell hcp
        clear hcr hcp
        rcases hfin with ⟨rfl, hxy⟩ | hf
        all_goals
          go_wp2_with fail
          refine (law05_awake _).mono ?_
          rintro e w11 ⟨rfl, h2⟩
          replace h1 := h1.trans h2
          clear h2
          go_wp2_with fail
          go_ret
          exact ⟨rfl, h1⟩
    · have hne : (e != 0) = true := by simpa using he
      have hne' : (e == 0) = false := by simpa using he
      clear he
      go_enter Try.func4, Try.ntmps4
      go_wp2_with fail
      refine (class_Round' xs _ _ x e rfl E1.out H.out hl).mono ?_
      rintro e w12 ⟨rfl, h2⟩
      replace h1 := h1.trans h2
      clear h2
      go_wp2_with fail
      refine (class_Round' xs _ _ y f rfl E2.out (H.out.ext h1) hl).mono ?_
      rintro e w13 ⟨rfl, h2⟩
      replace h1 := h1.trans h2
      clear h2
      go_wp2_with fail
      refine (law05_awake _).mono ?_
      rintro e w14 ⟨rfl, h2⟩
      replace h1 := h1.trans h2
      clear h2
      go_wp2_with fail
      go_ret
      exact ⟨rfl, h1⟩

set_option maxHeartbeats 2000000 in
theorem law05_ClassEach (a : Option Addr) (cap : Nat) (xs : List Int) (w : World) (h : At .i64 w a xs) (hl : xs.length ≤ maxLen) :
    Calls Try.prog 5 #[.slice a xs.length cap] w fun e w' => e = .returned (.bool true) ∧ Ext w w' := by
  have hl' := hl
  unfold maxLen at hl'
  have h1 := Ext.refl w
  by_cases h50 : 50 < xs.length
  · clear h
    go_enter Try.func5, Try.ntmps5
    go_wp2_with fail
    refine (law05_awake _).mono ?_
    rintro e w1 ⟨rfl, h2⟩
    replace h1 := h1.trans h2
    clear h2
    go_wp2_with fail
    go_ret
    exact ⟨rfl, h1⟩
  · have H := Lib.hid h; clear h
    by_cases h0 : ccheck xs = 0
    · have ho := ccheck_ok h0
      have h8 := ho.most
      obtain ⟨b, o, rfl, hc⟩ := H.out.pos ho.pos
      have HO := Lib.hid ho
      have HC := Lib.hid hc
      have H0 := Lib.hid h0
      clear ho hc h0
      go_enter Try.func5, Try.ntmps5
      go_wp2_with fail
      refine (class_Check' xs _ 0 rfl H0.out H.out hl).mono ?_
      rintro e w2 ⟨rfl, h2⟩
      replace h1 := h1.trans h2
      clear h2
      go_wp2_with fail
      go_loopw [3, 4, 5, 6, 7] (fun i _ _ _ _ wr => ∃ (k : Nat), k ≤ xs.length ∧ i = .int .i64 k ∧ Ext w wr) (fun i _ _ _ _ _ => xs.length - (intOf i).toNat)
      case atStart => exact ⟨0, Nat.zero_le _, rfl, h1⟩
      case round =>
        clear h1
        obtain ⟨k, hk, rfl, h1⟩ := hrel
        by_cases hlt : k < xs.length
        · have hck := HC.out k hlt
          have l1 := HO.out.least k hlt
          have l2 := HO.out.top k hlt
          have hck1 := h1.cell hck
          go_wp2_with fail
          refine (class_Of' xs _ _ k 0 rfl (each_own H0.out hlt) (H.out.ext h1) hl).mono ?_
          rintro e w11 ⟨rfl, h2⟩
          replace h1 := h1.trans h2
          clear h2 hck1
          have hck1 := h1.cell hck
          go_wp2_with fail
          by_cases hl1 : k + 1 < xs.length
          · refine (class_Of' xs _ _ _ 0 rfl (each_next H0.out hl1) (H.out.ext h1) hl).mono ?_
            rintro e w3 ⟨rfl, h2⟩
            replace h1 := h1.trans h2
            clear h2
            go_wp2_with fail
            go_roundw
            case rel => exact ⟨k + 1, by omega, by go_num, h1⟩
            case measure => simp [intOf]; omega
          · have hd : decide ((k : Int) + 1 < xs.length) = false := by simp; omega
            refine (class_Of' xs _ _ _ 50 rfl (each_last H0.out (by omega)) (H.out.ext h1) hl).mono ?_
            rintro e w4 ⟨rfl, h2⟩
            replace h1 := h1.trans h2
            clear h2
            go_wp2_with fail
            go_roundw
            case rel => exact ⟨k + 1, by omega, by go_num, h1⟩
            case measure => simp [intOf]; omega
        · go_wp2_with fail
          refine (class_Of' xs _ _ _ 0 rfl (each_first H0.out) (H.out.ext h1) hl).mono ?_
          rintro e w5 ⟨rfl, h2⟩
          replace h1 := h1.trans h2
          clear h2
          go_wp2_with fail
          refine (law05_awake _).mono ?_
          rintro e w6 ⟨rfl, h2⟩
          replace h1 := h1.trans h2
          clear h2
          go_wp2_with fail
          go_ret
          exact ⟨rfl, h1⟩
    · have h2 : ccheck xs = 2 := (ccheck_01 xs).resolve_left h0
      clear h0
      have H2 := Lib.hid h2; clear h2
      go_enter Try.func5, Try.ntmps5
      go_wp2_with fail
      refine (class_Check' xs _ 2 rfl H2.out H.out hl).mono ?_
      rintro e w7 ⟨rfl, h2⟩
      replace h1 := h1.trans h2
      clear h2
      go_wp2_with fail
      refine (law05_awake _).mono ?_
      rintro e w8 ⟨rfl, h2⟩
      replace h1 := h1.trans h2
      clear h2
      go_wp2_with fail
      go_ret
      exact ⟨rfl, h1⟩

end Go.Proofs.Ytcnaabkimgkpbaa
