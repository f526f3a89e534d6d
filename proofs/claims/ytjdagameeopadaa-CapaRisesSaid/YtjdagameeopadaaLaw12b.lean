/-
  The walk of commonagelaw12.CapaRises.
-/
import Derived.Test.YtjdagameeopadaaLaw12
namespace Go.Proofs.Ytjdagameeopadaa
open Go.RowKit

/-- Two words of one entry. -/
theorem hok_gen {c : Hnd} (h : hok c) (g : Int) (hg : g ≠ 0) : hok ⟨c.t, c.i, g⟩ := ⟨hg, h.2⟩
theorem hword_gen (c : Hnd) (k : Int) : hword ⟨c.t, c.i, c.g + k⟩ = hword c + k := by unfold hword; simp only; omega
theorem rise {c : Hnd} (h : hok c) (hg : 0 ≤ c.g ∧ c.g < 4294967296) (j : Int) (h0 : 0 ≤ j) (hj : c.g + j < 4294967296) :
    hget (hword c + j) = (⟨c.t, c.i, c.g + j⟩, 0) ∧ 0 ≤ hword c + j ∧ hword c + j < 18446744073709551616 ∧
    hnext (hword c + j) 2147483648 = if 2147483648 ≤ c.g + j then (0, 131) else (hword c + j + 1, 0) := by
  have hk : hok ⟨c.t, c.i, c.g + j⟩ := hok_gen h _ (by have := h.1; omega)
  have hb : 0 ≤ (⟨c.t, c.i, c.g + j⟩ : Hnd).g ∧ (⟨c.t, c.i, c.g + j⟩ : Hnd).g < 4294967296 := by show 0 ≤ c.g + j ∧ c.g + j < 4294967296; omega
  have e := hget_word hk hb
  have b := hword_64 hk hb
  rw [hword_gen] at e b
  refine ⟨e, by omega, b.2, ?_⟩
  unfold hnext
  rw [if_neg (by decide), e, if_neg (by simp)]
theorem rise_elder {c : Hnd} (h : hok c) (i j : Int) (h0 : 0 ≤ c.g + i ∧ c.g + i ≠ 0) (hi : c.g + i < 4294967296) (h1 : 0 ≤ c.g + j ∧ c.g + j ≠ 0) (hj : c.g + j < 4294967296) :
    helder (hword c + i) (hword c + j) = decide (i < j) := by
  have k1 := hok_gen h (c.g + i) h0.2
  have k2 := hok_gen h (c.g + j) h1.2
  have g1 : 0 ≤ (⟨c.t, c.i, c.g + i⟩ : Hnd).g ∧ (⟨c.t, c.i, c.g + i⟩ : Hnd).g < 4294967296 := ⟨h0.1, hi⟩
  have g2 : 0 ≤ (⟨c.t, c.i, c.g + j⟩ : Hnd).g ∧ (⟨c.t, c.i, c.g + j⟩ : Hnd).g < 4294967296 := ⟨h1.1, hj⟩
  have e1 := hget_word k1 g1
  have e2 := hget_word k2 g2
  have b1 := hword_64 k1 g1
  have b2 := hword_64 k2 g2
  rw [hword_gen] at e1 e2 b1 b2
  rw [Bool.eq_iff_iff, helder_parts e1 e2 (by omega) b1.2 (by omega) b2.2]
  simp

set_option maxRecDepth 100000 in
set_option maxHeartbeats 8000000 in
theorem law12_CapaRises (c : Hnd) (g k : Int) (w : World) (hg : 0 ≤ c.g ∧ c.g < 4294967296) (hg' : 0 ≤ g ∧ g < 4294967296) (hk : 0 ≤ k ∧ k ≤ 65535) :
    Calls Try.prog 11 #[.agg #[.int .i64 c.t, .int .i64 c.i, .int .u32 c.g], .int .u32 g, .int .u16 k] w fun e w' => e = .returned (.bool true) ∧ Ext w w' := by
  have hx := (Ext.refl w).alloc (.cells #[.int .i64 c.t, .int .i64 c.i, .int .u32 c.g] 48)
  have h1 := Ext.refl (w.alloc (.cells #[.int .i64 c.t, .int .i64 c.i, .int .u32 c.g] 48))
  have g0 := hg.1; have g1 := hg.2; have k0 := hk.1; have k1 := hk.2; have g2 := hg'.1; have g3 := hg'.2
  by_cases ho : hok c ∧ hok ⟨c.t, c.i, g⟩
  · have ho1 := ho.1
    have hd : g - c.g + c.g = g := by omega
    have P1 := Lib.hid (hput_yes ho.1)
    have P2 := Lib.hid (show hput ⟨c.t, c.i, g⟩ = (hword c + (g - c.g), 0) by rw [hput_yes ho.2, ← hword_gen]; congr 2; simp only [Hnd.mk.injEq, true_and]; omega)
    have G2 : Hid (0 ≤ (⟨c.t, c.i, g⟩ : Hnd).g ∧ (⟨c.t, c.i, g⟩ : Hnd).g < 4294967296) := Lib.hid hg'
    have nz := ho.1.1
    have nz' : g ≠ 0 := ho.2.1
    have R := Lib.hid (fun j h0 hj => rise ho1 hg j h0 hj)
    have RE := Lib.hid (fun i j h0 hi h1 hj => rise_elder ho1 i j h0 hi h1 hj)
    have bx := hword_64 ho.1 hg
    have by' := hword_64 ho.2 hg'
    have ey : hword ⟨c.t, c.i, g⟩ = hword c + (g - c.g) := by rw [← hword_gen]; congr 1; simp only [Hnd.mk.injEq, true_and]; omega
    rw [ey] at by'
    clear ho ho1 ey hd
    generalize hword c = x at *
    obtain ⟨y, hy⟩ : ∃ y, x + (g - c.g) = y := ⟨_, rfl⟩
    rw [hy] at by' P2
    have e1 : Hid (helder x x = false) := Lib.hid (by unfold helder; simp)
    have e2 : helder x y = decide (c.g < g) := by
      have := RE.out 0 (g - c.g) (by omega) (by omega) (by omega) (by omega)
      rw [Int.add_zero, hy] at this
      rw [this]; congr 1; simp only [eq_iff_iff]; omega
    have e3 : helder y x = decide (g < c.g) := by
      have := RE.out (g - c.g) 0 (by omega) (by omega) (by omega) (by omega)
      rw [Int.add_zero, hy] at this
      rw [this]; congr 1; simp only [eq_iff_iff]; omega
    obtain ⟨K, hK, hK300⟩ : ∃ K : Nat, k % 301 = K ∧ K ≤ 300 := ⟨(k % 301).toNat, by omega, by omega⟩
    have X0 : 0 ≤ x := by omega
    have XB := Lib.hid bx.2
    have Y0 : 0 ≤ y := by omega
    have YB := Lib.hid by'.2
    have hcase : ∃ b1 b2 : Bool, helder x y = b1 ∧ helder y x = b2 ∧ ((x ≠ y ∧ b1 = true ∧ b2 = false) ∨ (x = y ∧ b1 = false ∧ b2 = false) ∨ (x ≠ y ∧ b1 = false ∧ b2 = true)) := by
      refine ⟨_, _, e2, e3, ?_⟩
      rcases Int.lt_trichotomy c.g g with h | h | h
      · exact .inl ⟨by omega, by simpa using h, by simp; omega⟩
      · exact .inr (.inl ⟨by omega, by simp; omega, by simp; omega⟩)
      · exact .inr (.inr ⟨by omega, by simp; omega, by simpa using h⟩)
    clear e2 e3 bx by'
    have HY := Lib.hid hy; clear hy
    obtain ⟨b1, b2, e2, e3, hc⟩ := hcase
    have E2 := Lib.hid e2; have E3 := Lib.hid e3; clear e2 e3
    rcases hc with ⟨hne, rfl, rfl⟩ | ⟨rfl, rfl, rfl⟩ | ⟨hne, rfl, rfl⟩
    rotate_left 1
    · obtain ⟨b0, b1, b2⟩ := box3 h1
      go_enter Try.func11, Try.ntmps11
      go_wp2_with fail
      clear b0 b1 b2
      refine (capa_Put c _ _ P1.out hg).mono ?_
      rintro e w1 ⟨rfl, h2⟩
      replace h1 := (h1.trans (by repeat (first | exact Ext.refl _ | refine Ext.alloc ?_ _ | refine Ext.drewN ?_ _))).trans h2
      try replace h3 := (h3.trans (by repeat (first | exact Ext.refl _ | refine Ext.alloc ?_ _ | refine Ext.drewN ?_ _))).trans h2
      try replace h5 := (h5.trans (by repeat (first | exact Ext.refl _ | refine Ext.alloc ?_ _ | refine Ext.drewN ?_ _))).trans h2
      clear h2
      obtain ⟨b0, b1, b2⟩ := box3 h1
      have hz := cell_lt b0
      go_wp2_with fail
      clear b0 b1 b2
      refine (capa_Put ⟨c.t, c.i, g⟩ _ _ P2.out G2.out).mono ?_
      rintro e v2 ⟨rfl, h2⟩
      replace h1 := (h1.alloc _).trans h2
      clear h2
      go_wp2_with fail
      refine (capa_Elder x x false e1.out X0 XB.out X0 XB.out).mono ?_
      rintro e w2 ⟨rfl, h2⟩
      replace h1 := (h1.trans (by repeat (first | exact Ext.refl _ | refine Ext.alloc ?_ _ | refine Ext.drewN ?_ _))).trans h2
      try replace h3 := (h3.trans (by repeat (first | exact Ext.refl _ | refine Ext.alloc ?_ _ | refine Ext.drewN ?_ _))).trans h2
      try replace h5 := (h5.trans (by repeat (first | exact Ext.refl _ | refine Ext.alloc ?_ _ | refine Ext.drewN ?_ _))).trans h2
      clear h2
      go_wp2_with fail
      refine (capa_Elder x x false e1.out X0 XB.out X0 XB.out).mono ?_
      rintro e w3 ⟨rfl, h2⟩
      replace h1 := (h1.trans (by repeat (first | exact Ext.refl _ | refine Ext.alloc ?_ _ | refine Ext.drewN ?_ _))).trans h2
      try replace h3 := (h3.trans (by repeat (first | exact Ext.refl _ | refine Ext.alloc ?_ _ | refine Ext.drewN ?_ _))).trans h2
      try replace h5 := (h5.trans (by repeat (first | exact Ext.refl _ | refine Ext.alloc ?_ _ | refine Ext.drewN ?_ _))).trans h2
      clear h2
      go_wp2_with fail
      refine (capa_Elder x x false e1.out X0 XB.out X0 XB.out).mono ?_
      rintro e w4 ⟨rfl, h2⟩
      replace h1 := (h1.trans (by repeat (first | exact Ext.refl _ | refine Ext.alloc ?_ _ | refine Ext.drewN ?_ _))).trans h2
      try replace h3 := (h3.trans (by repeat (first | exact Ext.refl _ | refine Ext.alloc ?_ _ | refine Ext.drewN ?_ _))).trans h2
      try replace h5 := (h5.trans (by repeat (first | exact Ext.refl _ | refine Ext.alloc ?_ _ | refine Ext.drewN ?_ _))).trans h2
      clear h2
      go_wp2_with fail
      refine (capa_Elder x x false e1.out X0 XB.out X0 XB.out).mono ?_
      rintro e w5 ⟨rfl, h2⟩
      replace h1 := (h1.trans (by repeat (first | exact Ext.refl _ | refine Ext.alloc ?_ _ | refine Ext.drewN ?_ _))).trans h2
      try replace h3 := (h3.trans (by repeat (first | exact Ext.refl _ | refine Ext.alloc ?_ _ | refine Ext.drewN ?_ _))).trans h2
      try replace h5 := (h5.trans (by repeat (first | exact Ext.refl _ | refine Ext.alloc ?_ _ | refine Ext.drewN ?_ _))).trans h2
      clear h2
      go_wp2_with fail
      skip
      clear hz
      clear hK
      go_loopw [13, 14] (fun at' i wr => ∃ j : Nat, j ≤ K ∧ at' = .int .u64 (x + j) ∧ i = .int .i64 j ∧ (j = 0 ∨ c.g + j ≤ 2147483648) ∧ Ext (w.alloc (.cells #[.int .i64 c.t, .int .i64 c.i, .int .u32 c.g] 48)) wr) (fun _ i _ => K - (intOf i).toNat)
      case atStart => exact ⟨0, Nat.zero_le _, by rw [show x + ((0 : Nat) : Int) = x by omega], rfl, .inl rfl, h1⟩
      case round =>
        clear h1
        obtain ⟨j, hj, rfl, rfl, hb, h1⟩ := hrel
        obtain ⟨r1, r2, r3, r4⟩ := R.out j (by omega) (by omega)
        have R1 := Lib.hid r1; have R3 := Lib.hid r3; have R4 := Lib.hid r4
        clear r1 r3 r4
        by_cases hlt : j < K
        · by_cases hbig : 2147483648 ≤ c.g + j
          · replace R4 := Lib.hid (show hnext (x + j) 2147483648 = (0, 131) by rw [R4.out, if_pos hbig])
            go_wp2_with fail
            refine (capa_Next (x + j) 2147483648 0 131 R4.out r2 R3.out).mono ?_
            rintro e w6 ⟨rfl, h2⟩
            replace h1 := (h1.trans (by repeat (first | exact Ext.refl _ | refine Ext.alloc ?_ _ | refine Ext.drewN ?_ _))).trans h2
            try replace h3 := (h3.trans (by repeat (first | exact Ext.refl _ | refine Ext.alloc ?_ _ | refine Ext.drewN ?_ _))).trans h2
            try replace h5 := (h5.trans (by repeat (first | exact Ext.refl _ | refine Ext.alloc ?_ _ | refine Ext.drewN ?_ _))).trans h2
            clear h2
            go_wp2_with fail
            refine (capa_Get (x + j) _ 0 R1.out r2 R3.out).mono ?_
            rintro e v3 ⟨rfl, h2⟩
            replace h1 := h1.trans h2
            go_wp2_with fail
            refine (law12_awake _).mono ?_
            rintro e w7 ⟨rfl, h2⟩
            replace h1 := (h1.trans (by repeat (first | exact Ext.refl _ | refine Ext.alloc ?_ _ | refine Ext.drewN ?_ _))).trans h2
            try replace h3 := (h3.trans (by repeat (first | exact Ext.refl _ | refine Ext.alloc ?_ _ | refine Ext.drewN ?_ _))).trans h2
            try replace h5 := (h5.trans (by repeat (first | exact Ext.refl _ | refine Ext.alloc ?_ _ | refine Ext.drewN ?_ _))).trans h2
            clear h2
            go_wp2_with fail
            go_ret
            exact ⟨rfl, hx.trans h1⟩
          · replace R4 := Lib.hid (show hnext (x + j) 2147483648 = (x + j + 1, 0) by rw [R4.out, if_neg hbig])
            obtain ⟨n, hn⟩ : ∃ n, x + j + 1 = n := ⟨_, rfl⟩
            obtain ⟨s1, s2, s3, s4⟩ := R.out (j + 1) (by omega) (by omega)
            rw [show x + ((j : Int) + 1) = n by omega] at s1 s2 s3 s4
            have S3 := Lib.hid s3
            have T1 := RE.out j (j + 1) (by omega) (by omega) (by omega) (by omega)
            have T2 := RE.out 0 (j + 1) (by omega) (by omega) (by omega) (by omega)
            have T3 := RE.out (j + 1) j (by omega) (by omega) (by omega) (by omega)
            rw [show x + ((j : Int) + 1) = n by omega] at T1 T2 T3
            rw [decide_eq_true (by omega)] at T1 T2
            rw [decide_eq_false (by omega)] at T3
            rw [Int.add_zero] at T2
            rw [hn] at R4
            have U1 := Lib.hid T1; have U2 := Lib.hid T2; have U3 := Lib.hid T3
            have HN := Lib.hid hn
            clear s1 s3 s4 T1 T2 T3 hn
            go_wp2_with fail
            refine (capa_Next (x + j) 2147483648 n 0 R4.out r2 R3.out).mono ?_
            rintro e w8 ⟨rfl, h2⟩
            replace h1 := (h1.trans (by repeat (first | exact Ext.refl _ | refine Ext.alloc ?_ _ | refine Ext.drewN ?_ _))).trans h2
            try replace h3 := (h3.trans (by repeat (first | exact Ext.refl _ | refine Ext.alloc ?_ _ | refine Ext.drewN ?_ _))).trans h2
            try replace h5 := (h5.trans (by repeat (first | exact Ext.refl _ | refine Ext.alloc ?_ _ | refine Ext.drewN ?_ _))).trans h2
            clear h2
            go_wp2_with fail
            refine (capa_Elder (x + j) n true U1.out r2 R3.out s2 S3.out).mono ?_
            rintro e w9 ⟨rfl, h2⟩
            replace h1 := (h1.trans (by repeat (first | exact Ext.refl _ | refine Ext.alloc ?_ _ | refine Ext.drewN ?_ _))).trans h2
            try replace h3 := (h3.trans (by repeat (first | exact Ext.refl _ | refine Ext.alloc ?_ _ | refine Ext.drewN ?_ _))).trans h2
            try replace h5 := (h5.trans (by repeat (first | exact Ext.refl _ | refine Ext.alloc ?_ _ | refine Ext.drewN ?_ _))).trans h2
            clear h2
            go_wp2_with fail
            refine (capa_Elder x n true U2.out X0 XB.out s2 S3.out).mono ?_
            rintro e w10 ⟨rfl, h2⟩
            replace h1 := (h1.trans (by repeat (first | exact Ext.refl _ | refine Ext.alloc ?_ _ | refine Ext.drewN ?_ _))).trans h2
            try replace h3 := (h3.trans (by repeat (first | exact Ext.refl _ | refine Ext.alloc ?_ _ | refine Ext.drewN ?_ _))).trans h2
            try replace h5 := (h5.trans (by repeat (first | exact Ext.refl _ | refine Ext.alloc ?_ _ | refine Ext.drewN ?_ _))).trans h2
            clear h2
            go_wp2_with fail
            refine (capa_Elder n (x + j) false U3.out s2 S3.out r2 R3.out).mono ?_
            rintro e w11 ⟨rfl, h2⟩
            replace h1 := (h1.trans (by repeat (first | exact Ext.refl _ | refine Ext.alloc ?_ _ | refine Ext.drewN ?_ _))).trans h2
            try replace h3 := (h3.trans (by repeat (first | exact Ext.refl _ | refine Ext.alloc ?_ _ | refine Ext.drewN ?_ _))).trans h2
            try replace h5 := (h5.trans (by repeat (first | exact Ext.refl _ | refine Ext.alloc ?_ _ | refine Ext.drewN ?_ _))).trans h2
            clear h2
            go_wp2_with fail
            go_roundw
            case rel => exact ⟨j + 1, by omega, by rw [← HN.out]; go_num, by go_num, by omega, h1⟩
            case measure => simp [intOf]; omega
        · obtain rfl : j = K := by omega
          go_wp2_with fail
          refine (capa_Get (x + j) _ 0 R1.out r2 R3.out).mono ?_
          rintro e v3 ⟨rfl, h2⟩
          replace h1 := h1.trans h2
          clear h2
          obtain ⟨b0, b1, b2⟩ := box3 h1
          have hz := cell_lt b0
          go_wp2_with fail
          refine (law12_awake _).mono ?_
          rintro e w12 ⟨rfl, h2⟩
          replace h1 := (h1.trans (by repeat (first | exact Ext.refl _ | refine Ext.alloc ?_ _ | refine Ext.drewN ?_ _))).trans h2
          try replace h3 := (h3.trans (by repeat (first | exact Ext.refl _ | refine Ext.alloc ?_ _ | refine Ext.drewN ?_ _))).trans h2
          try replace h5 := (h5.trans (by repeat (first | exact Ext.refl _ | refine Ext.alloc ?_ _ | refine Ext.drewN ?_ _))).trans h2
          clear h2
          go_wp2_with fail
          go_ret
          exact ⟨rfl, hx.trans h1⟩
    all_goals
      have q1 : (x != y) = true := by simpa using hne
      have q2 : (x == y) = false := by simpa using hne
      clear hne
      obtain ⟨b0, b1, b2⟩ := box3 h1
      go_enter Try.func11, Try.ntmps11
      go_wp2_with fail
      clear b0 b1 b2
      refine (capa_Put c _ _ P1.out hg).mono ?_
      rintro e w13 ⟨rfl, h2⟩
      replace h1 := (h1.trans (by repeat (first | exact Ext.refl _ | refine Ext.alloc ?_ _ | refine Ext.drewN ?_ _))).trans h2
      try replace h3 := (h3.trans (by repeat (first | exact Ext.refl _ | refine Ext.alloc ?_ _ | refine Ext.drewN ?_ _))).trans h2
      try replace h5 := (h5.trans (by repeat (first | exact Ext.refl _ | refine Ext.alloc ?_ _ | refine Ext.drewN ?_ _))).trans h2
      clear h2
      obtain ⟨b0, b1, b2⟩ := box3 h1
      have hz := cell_lt b0
      go_wp2_with fail
      clear b0 b1 b2
      refine (capa_Put ⟨c.t, c.i, g⟩ _ _ P2.out G2.out).mono ?_
      rintro e v2 ⟨rfl, h2⟩
      replace h1 := (h1.alloc _).trans h2
      clear h2
      go_wp2_with fail
      refine (capa_Elder x x false e1.out X0 XB.out X0 XB.out).mono ?_
      rintro e w14 ⟨rfl, h2⟩
      replace h1 := (h1.trans (by repeat (first | exact Ext.refl _ | refine Ext.alloc ?_ _ | refine Ext.drewN ?_ _))).trans h2
      try replace h3 := (h3.trans (by repeat (first | exact Ext.refl _ | refine Ext.alloc ?_ _ | refine Ext.drewN ?_ _))).trans h2
      try replace h5 := (h5.trans (by repeat (first | exact Ext.refl _ | refine Ext.alloc ?_ _ | refine Ext.drewN ?_ _))).trans h2
      clear h2
      go_wp2_with fail
      refine (capa_Elder x y _ E2.out X0 XB.out Y0 YB.out).mono ?_
      rintro e w15 ⟨rfl, h2⟩
      replace h1 := (h1.trans (by repeat (first | exact Ext.refl _ | refine Ext.alloc ?_ _ | refine Ext.drewN ?_ _))).trans h2
      try replace h3 := (h3.trans (by repeat (first | exact Ext.refl _ | refine Ext.alloc ?_ _ | refine Ext.drewN ?_ _))).trans h2
      try replace h5 := (h5.trans (by repeat (first | exact Ext.refl _ | refine Ext.alloc ?_ _ | refine Ext.drewN ?_ _))).trans h2
      clear h2
      go_wp2_with fail
      refine (capa_Elder y x _ E3.out Y0 YB.out X0 XB.out).mono ?_
      rintro e w16 ⟨rfl, h2⟩
      replace h1 := (h1.trans (by repeat (first | exact Ext.refl _ | refine Ext.alloc ?_ _ | refine Ext.drewN ?_ _))).trans h2
      try replace h3 := (h3.trans (by repeat (first | exact Ext.refl _ | refine Ext.alloc ?_ _ | refine Ext.drewN ?_ _))).trans h2
      try replace h5 := (h5.trans (by repeat (first | exact Ext.refl _ | refine Ext.alloc ?_ _ | refine Ext.drewN ?_ _))).trans h2
      clear h2
      go_wp2_with fail
      clear q1 q2
      clear hz
      clear hK
      go_loopw [13, 14] (fun at' i wr => ∃ j : Nat, j ≤ K ∧ at' = .int .u64 (x + j) ∧ i = .int .i64 j ∧ (j = 0 ∨ c.g + j ≤ 2147483648) ∧ Ext (w.alloc (.cells #[.int .i64 c.t, .int .i64 c.i, .int .u32 c.g] 48)) wr) (fun _ i _ => K - (intOf i).toNat)
      case atStart => exact ⟨0, Nat.zero_le _, by rw [show x + ((0 : Nat) : Int) = x by omega], rfl, .inl rfl, h1⟩
      case round =>
        clear h1
        obtain ⟨j, hj, rfl, rfl, hb, h1⟩ := hrel
        obtain ⟨r1, r2, r3, r4⟩ := R.out j (by omega) (by omega)
        have R1 := Lib.hid r1; have R3 := Lib.hid r3; have R4 := Lib.hid r4
        clear r1 r3 r4
        by_cases hlt : j < K
        · by_cases hbig : 2147483648 ≤ c.g + j
          · replace R4 := Lib.hid (show hnext (x + j) 2147483648 = (0, 131) by rw [R4.out, if_pos hbig])
            go_wp2_with fail
            refine (capa_Next (x + j) 2147483648 0 131 R4.out r2 R3.out).mono ?_
            rintro e w17 ⟨rfl, h2⟩
            replace h1 := (h1.trans (by repeat (first | exact Ext.refl _ | refine Ext.alloc ?_ _ | refine Ext.drewN ?_ _))).trans h2
            try replace h3 := (h3.trans (by repeat (first | exact Ext.refl _ | refine Ext.alloc ?_ _ | refine Ext.drewN ?_ _))).trans h2
            try replace h5 := (h5.trans (by repeat (first | exact Ext.refl _ | refine Ext.alloc ?_ _ | refine Ext.drewN ?_ _))).trans h2
            clear h2
            go_wp2_with fail
            refine (capa_Get (x + j) _ 0 R1.out r2 R3.out).mono ?_
            rintro e v3 ⟨rfl, h2⟩
            replace h1 := h1.trans h2
            go_wp2_with fail
            refine (law12_awake _).mono ?_
            rintro e w18 ⟨rfl, h2⟩
            replace h1 := (h1.trans (by repeat (first | exact Ext.refl _ | refine Ext.alloc ?_ _ | refine Ext.drewN ?_ _))).trans h2
            try replace h3 := (h3.trans (by repeat (first | exact Ext.refl _ | refine Ext.alloc ?_ _ | refine Ext.drewN ?_ _))).trans h2
            try replace h5 := (h5.trans (by repeat (first | exact Ext.refl _ | refine Ext.alloc ?_ _ | refine Ext.drewN ?_ _))).trans h2
            clear h2
            go_wp2_with fail
            go_ret
            exact ⟨rfl, hx.trans h1⟩
          · replace R4 := Lib.hid (show hnext (x + j) 2147483648 = (x + j + 1, 0) by rw [R4.out, if_neg hbig])
            obtain ⟨n, hn⟩ : ∃ n, x + j + 1 = n := ⟨_, rfl⟩
            obtain ⟨s1, s2, s3, s4⟩ := R.out (j + 1) (by omega) (by omega)
            rw [show x + ((j : Int) + 1) = n by omega] at s1 s2 s3 s4
            have S3 := Lib.hid s3
            have T1 := RE.out j (j + 1) (by omega) (by omega) (by omega) (by omega)
            have T2 := RE.out 0 (j + 1) (by omega) (by omega) (by omega) (by omega)
            have T3 := RE.out (j + 1) j (by omega) (by omega) (by omega) (by omega)
            rw [show x + ((j : Int) + 1) = n by omega] at T1 T2 T3
            rw [decide_eq_true (by omega)] at T1 T2
            rw [decide_eq_false (by omega)] at T3
            rw [Int.add_zero] at T2
            rw [hn] at R4
            have U1 := Lib.hid T1; have U2 := Lib.hid T2; have U3 := Lib.hid T3
            have HN := Lib.hid hn
            clear s1 s3 s4 T1 T2 T3 hn
            go_wp2_with fail
            refine (capa_Next (x + j) 2147483648 n 0 R4.out r2 R3.out).mono ?_
            rintro e w19 ⟨rfl, h2⟩
            replace h1 := (h1.trans (by repeat (first | exact Ext.refl _ | refine Ext.alloc ?_ _ | refine Ext.drewN ?_ _))).trans h2
            try replace h3 := (h3.trans (by repeat (first | exact Ext.refl _ | refine Ext.alloc ?_ _ | refine Ext.drewN ?_ _))).trans h2
            try replace h5 := (h5.trans (by repeat (first | exact Ext.refl _ | refine Ext.alloc ?_ _ | refine Ext.drewN ?_ _))).trans h2
            clear h2
            go_wp2_with fail
            refine (capa_Elder (x + j) n true U1.out r2 R3.out s2 S3.out).mono ?_
            rintro e w20 ⟨rfl, h2⟩
            replace h1 := (h1.trans (by repeat (first | exact Ext.refl _ | refine Ext.alloc ?_ _ | refine Ext.drewN ?_ _))).trans h2
            try replace h3 := (h3.trans (by repeat (first | exact Ext.refl _ | refine Ext.alloc ?_ _ | refine Ext.drewN ?_ _))).trans h2
            try replace h5 := (h5.trans (by repeat (first | exact Ext.refl _ | refine Ext.alloc ?_ _ | refine Ext.drewN ?_ _))).trans h2
            clear h2
            go_wp2_with fail
            refine (capa_Elder x n true U2.out X0 XB.out s2 S3.out).mono ?_
            rintro e w21 ⟨rfl, h2⟩
            replace h1 := (h1.trans (by repeat (first | exact Ext.refl _ | refine Ext.alloc ?_ _ | refine Ext.drewN ?_ _))).trans h2
            try replace h3 := (h3.trans (by repeat (first | exact Ext.refl _ | refine Ext.alloc ?_ _ | refine Ext.drewN ?_ _))).trans h2
            try replace h5 := (h5.trans (by repeat (first | exact Ext.refl _ | refine Ext.alloc ?_ _ | refine Ext.drewN ?_ _))).trans h2
            clear h2
            go_wp2_with fail
            refine (capa_Elder n (x + j) false U3.out s2 S3.out r2 R3.out).mono ?_
            rintro e w22 ⟨rfl, h2⟩
            replace h1 := (h1.trans (by repeat (first | exact Ext.refl _ | refine Ext.alloc ?_ _ | refine Ext.drewN ?_ _))).trans h2
            try replace h3 := (h3.trans (by repeat (first | exact Ext.refl _ | refine Ext.alloc ?_ _ | refine Ext.drewN ?_ _))).trans h2
            try replace h5 := (h5.trans (by repeat (first | exact Ext.refl _ | refine Ext.alloc ?_ _ | refine Ext.drewN ?_ _))).trans h2
            clear h2
            go_wp2_with fail
            go_roundw
            case rel => exact ⟨j + 1, by omega, by rw [← HN.out]; go_num, by go_num, by omega, h1⟩
            case measure => simp [intOf]; omega
        · obtain rfl : j = K := by omega
          go_wp2_with fail
          refine (capa_Get (x + j) _ 0 R1.out r2 R3.out).mono ?_
          rintro e v3 ⟨rfl, h2⟩
          replace h1 := h1.trans h2
          clear h2
          obtain ⟨b0, b1, b2⟩ := box3 h1
          have hz := cell_lt b0
          go_wp2_with fail
          refine (law12_awake _).mono ?_
          rintro e w23 ⟨rfl, h2⟩
          replace h1 := (h1.trans (by repeat (first | exact Ext.refl _ | refine Ext.alloc ?_ _ | refine Ext.drewN ?_ _))).trans h2
          try replace h3 := (h3.trans (by repeat (first | exact Ext.refl _ | refine Ext.alloc ?_ _ | refine Ext.drewN ?_ _))).trans h2
          try replace h5 := (h5.trans (by repeat (first | exact Ext.refl _ | refine Ext.alloc ?_ _ | refine Ext.drewN ?_ _))).trans h2
          clear h2
          go_wp2_with fail
          go_ret
          exact ⟨rfl, hx.trans h1⟩
  · obtain ⟨p1, q1, e1⟩ : ∃ p q, hput c = (p, q) := ⟨_, _, rfl⟩
    obtain ⟨p2, q2, e2⟩ : ∃ p q, hput ⟨c.t, c.i, g⟩ = (p, q) := ⟨_, _, rfl⟩
    have P1 := Lib.hid e1; have P2 := Lib.hid e2
    have G2 : Hid (0 ≤ (⟨c.t, c.i, g⟩ : Hnd).g ∧ (⟨c.t, c.i, g⟩ : Hnd).g < 4294967296) := Lib.hid hg'
    have hq : ((q1 != 0) = true) ∨ ((q1 != 0) = false ∧ (q2 != 0) = true) := by
      by_cases h1 : hok c
      · have h2 : ¬ hok ⟨c.t, c.i, g⟩ := fun h => ho ⟨h1, h⟩
        rw [hput_yes h1] at e1
        rw [hput_no h2] at e2
        cases e1; cases e2; right; exact ⟨rfl, rfl⟩
      · rw [hput_no h1] at e1
        cases e1; left; rfl
    clear e1 e2 ho
    rcases hq with hq | ⟨hq, hq'⟩
    all_goals
      obtain ⟨b0, b1, b2⟩ := box3 h1
      go_enter Try.func11, Try.ntmps11
      go_wp2_with fail
      clear b0 b1 b2
      refine (capa_Put c _ _ P1.out hg).mono ?_
      rintro e w24 ⟨rfl, h2⟩
      replace h1 := (h1.trans (by repeat (first | exact Ext.refl _ | refine Ext.alloc ?_ _ | refine Ext.drewN ?_ _))).trans h2
      try replace h3 := (h3.trans (by repeat (first | exact Ext.refl _ | refine Ext.alloc ?_ _ | refine Ext.drewN ?_ _))).trans h2
      try replace h5 := (h5.trans (by repeat (first | exact Ext.refl _ | refine Ext.alloc ?_ _ | refine Ext.drewN ?_ _))).trans h2
      clear h2
      obtain ⟨b0, b1, b2⟩ := box3 h1
      have hz := cell_lt b0
      go_wp2_with fail
      clear b0 b1 b2
      refine (capa_Put ⟨c.t, c.i, g⟩ _ _ P2.out G2.out).mono ?_
      rintro e v2 ⟨rfl, h2⟩
      replace h1 := (h1.alloc _).trans h2
      clear h2
      go_wp2_with fail
      refine (law12_awake _).mono ?_
      rintro e w25 ⟨rfl, h2⟩
      replace h1 := (h1.trans (by repeat (first | exact Ext.refl _ | refine Ext.alloc ?_ _ | refine Ext.drewN ?_ _))).trans h2
      try replace h3 := (h3.trans (by repeat (first | exact Ext.refl _ | refine Ext.alloc ?_ _ | refine Ext.drewN ?_ _))).trans h2
      try replace h5 := (h5.trans (by repeat (first | exact Ext.refl _ | refine Ext.alloc ?_ _ | refine Ext.drewN ?_ _))).trans h2
      clear h2
      go_wp2_with fail
      go_ret
      exact ⟨rfl, hx.trans h1⟩

end Go.Proofs.Ytjdagameeopadaa
