/-
  Merged texts: Ref06.
-/
import Derived.Test.YtlhajoamebfniaaDoorG01
set_option linter.unusedVariables false
set_option linter.unusedSimpArgs false
/-! The document's answer for configurations (commonageref06): each function hands back what conf's own plain function computes, and leaves all that there was as it was. -/
namespace Go.Proofs.YtlhajoamebfniaaDoor
open Go.RowKit

theorem ref05_Check' {a : Option Addr} {cap : Nat} (xs : List Int) (n : Nat) (p : Int) {w : World} (hn : xs.length = n) (hp : ccheck xs = p) (h : At .i64 w a xs) (hl : xs.length ≤ maxLen) :
    Calls Tryd.prog 80 #[.slice a n cap] w fun e w' => e = .returned (.int .i64 p) ∧ Ext w w' := by
  have := ref05_Check a cap xs w h hl; rw [hp, hn] at this; exact this

theorem ref06_from (n lo hi : Int) (w : World) :
    Calls Tryd.prog 81 #[.int .i64 n, .int .i64 lo, .int .i64 hi] w fun e w' => e = .returned (.bool (decide (lo ≤ n ∧ n ≤ hi))) ∧ w = w' := by
  by_cases a : lo ≤ n
  · by_cases b : n ≤ hi
    · go_enter Tryd.func81, Tryd.ntmps81
      go_wp2_with fail
      go_ret
      exact ⟨ret_bool (by simp [a, b]), rfl⟩
    · have hd : decide (n ≤ hi) = false := by simpa using b
      go_enter Tryd.func81, Tryd.ntmps81
      go_wp2_with fail
      go_ret
      exact ⟨ret_bool (by simp), rfl⟩
  · have hd : decide (lo ≤ n) = false := by simpa using a
    go_enter Tryd.func81, Tryd.ntmps81
    go_wp2_with fail
    go_ret
    exact ⟨ret_bool (by simp), rfl⟩
theorem ref06_fromb {n lo hi : Int} (b : Bool) {w : World} (h : decide (lo ≤ n ∧ n ≤ hi) = b) :
    Calls Tryd.prog 81 #[.int .i64 n, .int .i64 lo, .int .i64 hi] w fun e w' => e = .returned (.bool b) ∧ w = w' := h ▸ ref06_from n lo hi w

set_option maxHeartbeats 2000000 in
theorem ref06_Small {ca ta : Option Addr} {cc tc : Nat} (c : Conf) (b : Bool) {w : World} (hb : decide (c.cl.length ≤ 50 ∧ c.ts.length ≤ 50) = b) (h : CfgAt w ca ta cc tc c) :
    Calls Tryd.prog 45 #[.agg #[.slice ca c.cl.length cc, .int .i64 c.page, .slice ta c.ts.length tc, .int .i64 c.wk, .int .i64 c.gr, .int .i64 c.gens]] w fun e w' => e = .returned (.bool b) ∧ Ext w w' := by
  have hx := (Ext.refl w).alloc (.cells #[.slice ca c.cl.length cc, .int .i64 c.page, .slice ta c.ts.length tc, .int .i64 c.wk, .int .i64 c.gr, .int .i64 c.gens] 25)
  have cm := h.cm
  have tm := h.tm
  unfold maxLen at cm tm
  clear h
  by_cases h1 : c.cl.length ≤ 50
  · by_cases h2 : c.ts.length ≤ 50
    · obtain rfl : true = b := by rw [← hb]; simp [h1, h2]
      have hd2 : decide ((c.ts.length : Int) ≤ 50) = true := by simp; omega
      clear hb
      go_enter Tryd.func45, Tryd.ntmps45
      go_wp2_with fail
      go_ret
      exact ⟨rfl, hx⟩
    · obtain rfl : false = b := by rw [← hb]; simp [h2]
      have hd2 : decide ((c.ts.length : Int) ≤ 50) = false := by simp; omega
      clear hb
      go_enter Tryd.func45, Tryd.ntmps45
      go_wp2_with fail
      go_ret
      exact ⟨rfl, hx⟩
  · obtain rfl : false = b := by rw [← hb]; simp [h1]
    have hd2 : decide ((c.cl.length : Int) ≤ 50) = false := by simp; omega
    clear hb
    go_enter Tryd.func45, Tryd.ntmps45
    go_wp2_with fail
    go_ret
    exact ⟨rfl, hx⟩

/-! ### Check -/
/-- A configuration's head, test by test. -/
theorem head_split (c : Conf) : headOk c ↔ (great c ≤ c.page ∧ c.page ≤ 64) ∧ ((1 : Int) ≤ c.ts.length ∧ (c.ts.length : Int) ≤ 8) ∧ (0 ≤ c.wk ∧ c.wk ≤ 8) ∧ (1 ≤ c.gr ∧ c.gr ≤ 64) ∧ (1 ≤ c.gens ∧ c.gens ≤ 2147483648) := by
  unfold headOk; constructor <;> intro h <;> omega
theorem ten_split (g : Int) (t : Ten) : tenOk g t ↔ (g ≤ t.q ∧ t.q ≤ 4096) ∧ (1 ≤ t.tr ∧ t.tr ≤ 1048576) ∧ (1 ≤ t.cp ∧ t.cp ≤ 1024) ∧ (0 ≤ t.sst ∧ t.sst ≤ 1024) := by
  unfold tenOk; constructor <;> intro h <;> omega

set_option maxHeartbeats 4000000 in
theorem ref06_Check {ca ta : Option Addr} {cc tc : Nat} (c : Conf) (p : Int) {w : World} (hp : kcheck c = p) (h : CfgAt w ca ta cc tc c) :
    Calls Tryd.prog 46 #[.agg #[.slice ca c.cl.length cc, .int .i64 c.page, .slice ta c.ts.length tc, .int .i64 c.wk, .int .i64 c.gr, .int .i64 c.gens]] w fun e w' => e = .returned (.int .i64 p) ∧ Ext w w' := by
  have h1 := Ext.refl (w.alloc (.cells #[.slice ca c.cl.length cc, .int .i64 c.page, .slice ta c.ts.length tc, .int .i64 c.wk, .int .i64 c.gr, .int .i64 c.gens] 25))
  have hx := (Ext.refl w).alloc (.cells #[.slice ca c.cl.length cc, .int .i64 c.page, .slice ta c.ts.length tc, .int .i64 c.wk, .int .i64 c.gr, .int .i64 c.gens] 25)
  have tm := h.tm
  unfold maxLen at tm
  have H := Lib.hid h; clear h
  by_cases h0 : ccheck c.cl = 0
  · have H0 := Lib.hid h0
    have ho := ccheck_ok h0
    have c1 := ho.pos
    have c8 := ho.most
    obtain ⟨cb, co, rfl, hc⟩ := H.out.cl.pos c1
    have hcg := hc (c.cl.length - 1) (by omega)
    rw [show nth c.cl (c.cl.length - 1) = great c from rfl] at hcg
    have HP := Lib.hid hp
    clear h0 ho hc hp
    go_enter Tryd.func46, Tryd.ntmps46
    go_wp2_with fail
    refine (ref05_Check' c.cl _ 0 rfl H0.out (H.out.cl.ext (hx.trans h1)) H.out.cm).mono ?_
    rintro e w1 ⟨rfl, h2⟩
    replace h1 := h1.trans h2
    clear h2
    obtain ⟨b0, b1, b2, b3, b4, b5⟩ := box6 h1
    have hcg1 := (hx.trans h1).cell hcg
    clear hcg
    by_cases g1 : great c ≤ c.page ∧ c.page ≤ 64
    · by_cases g2 : (1 : Int) ≤ c.ts.length ∧ (c.ts.length : Int) ≤ 8
      · by_cases g3 : 0 ≤ c.wk ∧ c.wk ≤ 8
        · by_cases g4 : 1 ≤ c.gr ∧ c.gr ≤ 64
          · by_cases g5 : 1 ≤ c.gens ∧ c.gens ≤ 2147483648
            · have E := Lib.hid (HP.out.symm.trans (kcheck_tens H0.out ((head_split c).2 ⟨g1, g2, g3, g4, g5⟩)))
              have G1 := Lib.hid g1; have G2 := Lib.hid g2; have G3 := Lib.hid g3; have G4 := Lib.hid g4; have G5 := Lib.hid g5
              have t1 : 1 ≤ c.ts.length := by omega
              have t8 : c.ts.length ≤ 8 := by omega
              clear g1 g2 g3 g4 g5
              go_wp2_with fail
              refine (ref06_fromb true (by simpa using G1.out)).mono ?_
              rintro e w1000 ⟨rfl, rfl⟩
              go_wp2_with fail
              refine (ref06_fromb true (by simpa using G2.out)).mono ?_
              rintro e w1000 ⟨rfl, rfl⟩
              go_wp2_with fail
              refine (ref06_fromb true (by simpa using G3.out)).mono ?_
              rintro e w1000 ⟨rfl, rfl⟩
              go_wp2_with fail
              refine (ref06_fromb true (by simpa using G4.out)).mono ?_
              rintro e w1000 ⟨rfl, rfl⟩
              go_wp2_with fail
              refine (ref06_fromb true (by simpa using G5.out)).mono ?_
              rintro e w1000 ⟨rfl, rfl⟩
              go_wp2_with fail
              clear b0 b1 b2 b3 b4 b5 hcg1
              obtain ⟨tb, to_, rfl, ht⟩ := H.out.ts.pos t1
              have HT := Lib.hid ht
              clear ht
              go_loopw [4] (fun i wr => ∃ k : Nat, k ≤ c.ts.length ∧ i = .int .i64 k ∧ Hid (tenCheck (great c) c.ts = tenCheck (great c) (c.ts.drop k)) ∧ Ext (w.alloc (.cells #[.slice (some ⟨cb, co, none⟩) c.cl.length cc, .int .i64 c.page, .slice (some ⟨tb, to_, none⟩) c.ts.length tc, .int .i64 c.wk, .int .i64 c.gr, .int .i64 c.gens] 25)) wr) (fun i _ => c.ts.length - (intOf i).toNat)
              case atStart => exact ⟨0, Nat.zero_le _, rfl, rfl, h1⟩
              case round =>
                clear h1
                obtain ⟨k, hk, rfl, HE, h1⟩ := hrel
                obtain ⟨b0, b1, b2, b3, b4, b5⟩ := box6 h1
                by_cases hlt : k < c.ts.length
                · obtain ⟨q0, q1, q2, q3⟩ := HT.out k hlt
                  have hd : tenCheck (great c) c.ts = if tenOk (great c) (tnth c.ts k) then tenCheck (great c) (c.ts.drop (k + 1)) else 2 := by
                    rw [HE.out, drop_tnth c.ts k hlt]; rfl
                  have HD := Lib.hid hd
                  clear hd
                  have r0 := (hx.trans h1).cell q0
                  have r1 := (hx.trans h1).cell q1
                  have r2 := (hx.trans h1).cell q2
                  have r3 := (hx.trans h1).cell q3
                  clear q0 q1 q2 q3
                  generalize tnth c.ts k = t at *
                  have h1n := h1.alloc (.cells #[.int .i64 t.q, .int .i64 t.tr, .int .i64 t.cp, .int .i64 t.sst] 63)
                  by_cases e1 : great c ≤ t.q ∧ t.q ≤ 4096
                  · by_cases e2 : 1 ≤ t.tr ∧ t.tr ≤ 1048576
                    · by_cases e3 : 1 ≤ t.cp ∧ t.cp ≤ 1024
                      · by_cases e4 : 0 ≤ t.sst ∧ t.sst ≤ 1024
                        · have E2 := Lib.hid (HD.out.trans (if_pos ((ten_split _ t).2 ⟨e1, e2, e3, e4⟩)))
                          have F1 := Lib.hid e1; have F2 := Lib.hid e2; have F3 := Lib.hid e3; have F4 := Lib.hid e4
                          clear e1 e2 e3 e4
                          go_wp2_with fail
                          refine (ref06_fromb true (by simpa using F1.out)).mono ?_
                          rintro e w1000 ⟨rfl, rfl⟩
                          go_wp2_with fail
                          refine (ref06_fromb true (by simpa using F2.out)).mono ?_
                          rintro e w1000 ⟨rfl, rfl⟩
                          go_wp2_with fail
                          refine (ref06_fromb true (by simpa using F3.out)).mono ?_
                          rintro e w1000 ⟨rfl, rfl⟩
                          go_wp2_with fail
                          refine (ref06_fromb true (by simpa using F4.out)).mono ?_
                          rintro e w1000 ⟨rfl, rfl⟩
                          go_wp2_with fail
                          go_roundw
                          case rel => exact ⟨k + 1, by omega, by go_num, E2.out, h1n⟩
                          case measure => simp [intOf]; omega
                        · have E2 := Lib.hid (HD.out.trans (if_neg (fun h => e4 ((ten_split _ t).1 h).2.2.2)))
                          have F1 := Lib.hid e1; have F2 := Lib.hid e2; have F3 := Lib.hid e3; have F4 := Lib.hid e4
                          clear e1 e2 e3 e4
                          go_wp2_with fail
                          refine (ref06_fromb true (by simpa using F1.out)).mono ?_
                          rintro e w1000 ⟨rfl, rfl⟩
                          go_wp2_with fail
                          refine (ref06_fromb true (by simpa using F2.out)).mono ?_
                          rintro e w1000 ⟨rfl, rfl⟩
                          go_wp2_with fail
                          refine (ref06_fromb true (by simpa using F3.out)).mono ?_
                          rintro e w1000 ⟨rfl, rfl⟩
                          go_wp2_with fail
                          refine (ref06_fromb false (decide_eq_false F4.out)).mono ?_
                          rintro e w1000 ⟨rfl, rfl⟩
                          go_wp2_with fail
                          go_ret
                          exact ⟨by rw [E.out, E2.out]; rfl, hx.trans h1n⟩
                      · have E2 := Lib.hid (HD.out.trans (if_neg (fun h => e3 ((ten_split _ t).1 h).2.2.1)))
                        have F1 := Lib.hid e1; have F2 := Lib.hid e2; have F3 := Lib.hid e3
                        clear e1 e2 e3
                        go_wp2_with fail
                        refine (ref06_fromb true (by simpa using F1.out)).mono ?_
                        rintro e w1000 ⟨rfl, rfl⟩
                        go_wp2_with fail
                        refine (ref06_fromb true (by simpa using F2.out)).mono ?_
                        rintro e w1000 ⟨rfl, rfl⟩
                        go_wp2_with fail
                        refine (ref06_fromb false (decide_eq_false F3.out)).mono ?_
                        rintro e w1000 ⟨rfl, rfl⟩
                        go_wp2_with fail
                        go_ret
                        exact ⟨by rw [E.out, E2.out]; rfl, hx.trans h1n⟩
                    · have E2 := Lib.hid (HD.out.trans (if_neg (fun h => e2 ((ten_split _ t).1 h).2.1)))
                      have F1 := Lib.hid e1; have F2 := Lib.hid e2
                      clear e1 e2
                      go_wp2_with fail
                      refine (ref06_fromb true (by simpa using F1.out)).mono ?_
                      rintro e w1000 ⟨rfl, rfl⟩
                      go_wp2_with fail
                      refine (ref06_fromb false (decide_eq_false F2.out)).mono ?_
                      rintro e w1000 ⟨rfl, rfl⟩
                      go_wp2_with fail
                      go_ret
                      exact ⟨by rw [E.out, E2.out]; rfl, hx.trans h1n⟩
                  · have E2 := Lib.hid (HD.out.trans (if_neg (fun h => e1 ((ten_split _ t).1 h).1)))
                    have F1 := Lib.hid e1
                    clear e1
                    go_wp2_with fail
                    refine (ref06_fromb false (decide_eq_false F1.out)).mono ?_
                    rintro e w1000 ⟨rfl, rfl⟩
                    go_wp2_with fail
                    go_ret
                    exact ⟨by rw [E.out, E2.out]; rfl, hx.trans h1n⟩
                · have E2 := Lib.hid (HE.out.trans (by rw [List.drop_of_length_le (by omega)]; rfl : tenCheck (great c) (c.ts.drop k) = 0))
                  go_wp2_with fail
                  go_ret
                  exact ⟨by rw [E.out, E2.out]; rfl, hx.trans h1⟩
            · have E := Lib.hid (HP.out.symm.trans (kcheck_head H0.out (fun h => g5 ((head_split c).1 h).2.2.2.2)))
              have G1 := Lib.hid g1; have G2 := Lib.hid g2; have G3 := Lib.hid g3; have G4 := Lib.hid g4; have G5 := Lib.hid g5
              clear g1 g2 g3 g4 g5
              go_wp2_with fail
              refine (ref06_fromb true (by simpa using G1.out)).mono ?_
              rintro e w1000 ⟨rfl, rfl⟩
              go_wp2_with fail
              refine (ref06_fromb true (by simpa using G2.out)).mono ?_
              rintro e w1000 ⟨rfl, rfl⟩
              go_wp2_with fail
              refine (ref06_fromb true (by simpa using G3.out)).mono ?_
              rintro e w1000 ⟨rfl, rfl⟩
              go_wp2_with fail
              refine (ref06_fromb true (by simpa using G4.out)).mono ?_
              rintro e w1000 ⟨rfl, rfl⟩
              go_wp2_with fail
              refine (ref06_fromb false (decide_eq_false G5.out)).mono ?_
              rintro e w1000 ⟨rfl, rfl⟩
              go_wp2_with fail
              go_ret
              exact ⟨by rw [E.out]; rfl, hx.trans h1⟩
          · have E := Lib.hid (HP.out.symm.trans (kcheck_head H0.out (fun h => g4 ((head_split c).1 h).2.2.2.1)))
            have G1 := Lib.hid g1; have G2 := Lib.hid g2; have G3 := Lib.hid g3; have G4 := Lib.hid g4
            clear g1 g2 g3 g4
            go_wp2_with fail
            refine (ref06_fromb true (by simpa using G1.out)).mono ?_
            rintro e w1000 ⟨rfl, rfl⟩
            go_wp2_with fail
            refine (ref06_fromb true (by simpa using G2.out)).mono ?_
            rintro e w1000 ⟨rfl, rfl⟩
            go_wp2_with fail
            refine (ref06_fromb true (by simpa using G3.out)).mono ?_
            rintro e w1000 ⟨rfl, rfl⟩
            go_wp2_with fail
            refine (ref06_fromb false (decide_eq_false G4.out)).mono ?_
            rintro e w1000 ⟨rfl, rfl⟩
            go_wp2_with fail
            go_ret
            exact ⟨by rw [E.out]; rfl, hx.trans h1⟩
        · have E := Lib.hid (HP.out.symm.trans (kcheck_head H0.out (fun h => g3 ((head_split c).1 h).2.2.1)))
          have G1 := Lib.hid g1; have G2 := Lib.hid g2; have G3 := Lib.hid g3
          clear g1 g2 g3
          go_wp2_with fail
          refine (ref06_fromb true (by simpa using G1.out)).mono ?_
          rintro e w1000 ⟨rfl, rfl⟩
          go_wp2_with fail
          refine (ref06_fromb true (by simpa using G2.out)).mono ?_
          rintro e w1000 ⟨rfl, rfl⟩
          go_wp2_with fail
          refine (ref06_fromb false (decide_eq_false G3.out)).mono ?_
          rintro e w1000 ⟨rfl, rfl⟩
          go_wp2_with fail
          go_ret
          exact ⟨by rw [E.out]; rfl, hx.trans h1⟩
      · have E := Lib.hid (HP.out.symm.trans (kcheck_head H0.out (fun h => g2 ((head_split c).1 h).2.1)))
        have G1 := Lib.hid g1; have G2 := Lib.hid g2
        clear g1 g2
        go_wp2_with fail
        refine (ref06_fromb true (by simpa using G1.out)).mono ?_
        rintro e w1000 ⟨rfl, rfl⟩
        go_wp2_with fail
        refine (ref06_fromb false (decide_eq_false G2.out)).mono ?_
        rintro e w1000 ⟨rfl, rfl⟩
        go_wp2_with fail
        go_ret
        exact ⟨by rw [E.out]; rfl, hx.trans h1⟩
    · have E := Lib.hid (HP.out.symm.trans (kcheck_head H0.out (fun h => g1 ((head_split c).1 h).1)))
      have G1 := Lib.hid g1
      clear g1
      go_wp2_with fail
      refine (ref06_fromb false (decide_eq_false G1.out)).mono ?_
      rintro e w1000 ⟨rfl, rfl⟩
      go_wp2_with fail
      go_ret
      exact ⟨by rw [E.out]; rfl, hx.trans h1⟩
  · have h2 : ccheck c.cl = 2 := (ccheck_01 _).resolve_left h0
    have E := Lib.hid (hp.symm.trans (kcheck_no h0))
    have H2 := Lib.hid h2
    clear h0 h2 hp
    go_enter Tryd.func46, Tryd.ntmps46
    go_wp2_with fail
    refine (ref05_Check' c.cl _ 2 rfl H2.out (H.out.cl.ext (hx.trans h1)) H.out.cm).mono ?_
    rintro e w1 ⟨rfl, h2⟩
    replace h1 := h1.trans h2
    clear h2
    obtain ⟨b0, b1, b2, b3, b4, b5⟩ := box6 h1
    go_wp2_with fail
    all_goals (try clear b0 b1 b2 b3 b4 b5)
    go_ret
    exact ⟨by rw [E.out]; rfl, hx.trans h1⟩

/-! ### there, Slots, Pages, Region, Base, Total -/
set_option maxHeartbeats 2000000 in
theorem ref06_there {ca ta : Option Addr} {cc tc : Nat} (c : Conf) (t k : Int) (b : Bool) {w : World} (hb : decide (there c t k) = b) (h : CfgAt w ca ta cc tc c) :
    Calls Tryd.prog 98 #[.agg #[.slice ca c.cl.length cc, .int .i64 c.page, .slice ta c.ts.length tc, .int .i64 c.wk, .int .i64 c.gr, .int .i64 c.gens], .int .i64 t, .int .i64 k] w fun e w' => e = .returned (.bool b) ∧ Ext w w' := by
  have h1 := Ext.refl (w.alloc (.cells #[.slice ca c.cl.length cc, .int .i64 c.page, .slice ta c.ts.length tc, .int .i64 c.wk, .int .i64 c.gr, .int .i64 c.gens] 25))
  have hx := (Ext.refl w).alloc (.cells #[.slice ca c.cl.length cc, .int .i64 c.page, .slice ta c.ts.length tc, .int .i64 c.wk, .int .i64 c.gr, .int .i64 c.gens] 25)
  have H := Lib.hid h; clear h
  by_cases h0 : kcheck c = 0
  · have ho := kcheck_ok h0
    have c1 := ho.cl.pos
    have c8 := ho.cl.most
    have t1 := ho.head.2.2.1
    have t8 := ho.head.2.2.2.1
    have H0 := Lib.hid h0
    by_cases e1 : 0 ≤ t ∧ t ≤ (c.ts.length : Int) - 1
    · have hw : decide (0 ≤ k ∧ k ≤ (c.cl.length : Int) - 1) = b := by rw [← hb]; unfold there; simp only [h0, true_and, e1.1, e1.2]
      have HW := Lib.hid hw
      have F1 := Lib.hid e1
      clear h0 ho hw hb e1
      go_enter Tryd.func98, Tryd.ntmps98
      go_wp2_with fail
      try clear b0 b1 b2 b3 b4 b5
      refine (ref06_Check c 0 H0.out (H.out.ext (hx.trans h1))).mono ?_
      rintro e w1 ⟨rfl, h2⟩
      replace h1 := h1.trans h2
      clear h2
      obtain ⟨b0, b1, b2, b3, b4, b5⟩ := box6 h1
      go_wp2_with fail
      refine (ref06_fromb true (by simpa using F1.out)).mono ?_
      rintro e w1001 ⟨rfl, rfl⟩
      go_wp2_with fail
      refine (ref06_fromb b HW.out).mono ?_
      rintro e w1001 ⟨rfl, rfl⟩
      go_wp2_with fail
      go_ret
      exact ⟨rfl, hx.trans h1⟩
    · obtain rfl : false = b := by rw [← hb]; symm; rw [decide_eq_false_iff_not]; exact fun h => e1 ⟨h.2.1, h.2.2.1⟩
      have F1 := Lib.hid e1
      clear h0 ho hb e1
      go_enter Tryd.func98, Tryd.ntmps98
      go_wp2_with fail
      refine (ref06_Check c 0 H0.out (H.out.ext (hx.trans h1))).mono ?_
      rintro e w2 ⟨rfl, h2⟩
      replace h1 := h1.trans h2
      clear h2
      obtain ⟨b0, b1, b2, b3, b4, b5⟩ := box6 h1
      go_wp2_with fail
      all_goals (try clear b0 b1 b2 b3 b4 b5)
      refine (ref06_fromb false (decide_eq_false F1.out)).mono ?_
      rintro e w1002 ⟨rfl, rfl⟩
      go_wp2_with fail
      go_ret
      exact ⟨rfl, hx.trans h1⟩
  · have h2 : kcheck c = 2 := (kcheck_01 _).resolve_left h0
    obtain rfl : b = false := by rw [← hb]; simp [there, h0]
    have H2 := Lib.hid h2
    clear h0 h2 hb
    go_enter Tryd.func98, Tryd.ntmps98
    go_wp2_with fail
    refine (ref06_Check c 2 H2.out (H.out.ext (hx.trans h1))).mono ?_
    rintro e w3 ⟨rfl, h2⟩
    replace h1 := h1.trans h2
    clear h2
    obtain ⟨b0, b1, b2, b3, b4, b5⟩ := box6 h1
    go_wp2_with fail
    all_goals (try clear b0 b1 b2 b3 b4 b5)
    go_ret
    exact ⟨rfl, hx.trans h1⟩

set_option maxHeartbeats 2000000 in
theorem ref06_Slots {ca ta : Option Addr} {cc tc : Nat} (c : Conf) (t k p q : Int) {w : World} (hpq : kslots c t k = (p, q)) (h : CfgAt w ca ta cc tc c) :
    Calls Tryd.prog 85 #[.agg #[.slice ca c.cl.length cc, .int .i64 c.page, .slice ta c.ts.length tc, .int .i64 c.wk, .int .i64 c.gr, .int .i64 c.gens], .int .i64 t, .int .i64 k] w fun e w' => e = .returned (.tuple #[.int .i64 p, .int .i64 q]) ∧ Ext w w' := by
  have h1 := Ext.refl (w.alloc (.cells #[.slice ca c.cl.length cc, .int .i64 c.page, .slice ta c.ts.length tc, .int .i64 c.wk, .int .i64 c.gr, .int .i64 c.gens] 25))
  have hx := (Ext.refl w).alloc (.cells #[.slice ca c.cl.length cc, .int .i64 c.page, .slice ta c.ts.length tc, .int .i64 c.wk, .int .i64 c.gr, .int .i64 c.gens] 25)
  have H := Lib.hid h; clear h
  by_cases hth : there c t k
  · obtain ⟨i, j, rfl, rfl, hi, hj, ho⟩ := there_nat hth
    rw [kslots_yes hth] at hpq
    obtain ⟨rfl, rfl⟩ : slotsOf c i j = p ∧ 0 = q := by simpa using hpq
    clear hpq
    have c8 := ho.cl.most
    have t8 := ho.head.2.2.2.1
    have bd := ho.bounds hi hj
    have u1 := bd.c2; have u2 := bd.cq; have u3 := bd.q4096; have u4 := bd.c64
    have HS := Lib.hid (show slotsOf c i j = (tnth c.ts i).q / nth c.cl j from rfl)
    have HTH := Lib.hid (show decide (there c i j) = true by simpa using hth)
    obtain ⟨cb, co, rfl, hc⟩ := H.out.cl.pos (by omega)
    obtain ⟨tb, to_, rfl, ht⟩ := H.out.ts.pos (by omega)
    have hcj := hc j hj
    have hti := (ht i hi).1
    clear hc ht bd ho hth
    generalize slotsOf c i j = s at *
    generalize nth c.cl j = x at *
    generalize (tnth c.ts i).q = y at *
    go_enter Tryd.func85, Tryd.ntmps85
    go_wp2_with fail
    refine (ref06_there c _ _ true HTH.out (H.out.ext (hx.trans h1))).mono ?_
    rintro e w1 ⟨rfl, h2⟩
    replace h1 := h1.trans h2
    clear h2
    obtain ⟨b0, b1, b2, b3, b4, b5⟩ := box6 h1
    go_wp2_with fail
    all_goals (try clear b0 b1 b2 b3 b4 b5)
    obtain ⟨b0, b1, b2, b3, b4, b5⟩ := box6 h1
    have z1 := (hx.trans h1).cell hcj
    have z2 := (hx.trans h1).cell hti
    clear hcj hti
    go_quiet (fail)
    go_wp2_with fail
    go_ret2
    exact ⟨by rw [HS.out]; rfl, (hx.trans h1).drewN _⟩
  · rw [kslots_no hth] at hpq
    obtain ⟨rfl, rfl⟩ : 0 = p ∧ 2 = q := by simpa using hpq
    have HTH := Lib.hid (show decide (there c t k) = false by simpa using hth)
    clear hpq hth
    go_enter Tryd.func85, Tryd.ntmps85
    go_wp2_with fail
    refine (ref06_there c _ _ false HTH.out (H.out.ext (hx.trans h1))).mono ?_
    rintro e w2 ⟨rfl, h2⟩
    replace h1 := h1.trans h2
    clear h2
    obtain ⟨b0, b1, b2, b3, b4, b5⟩ := box6 h1
    go_wp2_with fail
    all_goals (try clear b0 b1 b2 b3 b4 b5)
    go_ret2
    exact ⟨rfl, hx.trans h1⟩

theorem pages_up {s pe k : Int} (h1 : 1 ≤ pe) (h : k * pe < s) : k + 1 ≤ (s + pe - 1) / pe := by
  rw [Int.le_ediv_iff_mul_le (by omega), Int.add_mul]; omega
theorem pages_end {s pe k : Int} (h1 : 1 ≤ pe) (hk : k ≤ (s + pe - 1) / pe) (h : s ≤ k * pe) : k = (s + pe - 1) / pe := by
  have : (s + pe - 1) / pe < k + 1 := by rw [Int.ediv_lt_iff_lt_mul (by omega), Int.add_mul]; omega
  omega

set_option maxHeartbeats 2000000 in
theorem ref06_Pages {ca ta : Option Addr} {cc tc : Nat} (c : Conf) (t k p q : Int) {w : World} (hpq : kpages c t k = (p, q)) (h : CfgAt w ca ta cc tc c) :
    Calls Tryd.prog 99 #[.agg #[.slice ca c.cl.length cc, .int .i64 c.page, .slice ta c.ts.length tc, .int .i64 c.wk, .int .i64 c.gr, .int .i64 c.gens], .int .i64 t, .int .i64 k] w fun e w' => e = .returned (.tuple #[.int .i64 p, .int .i64 q]) ∧ Ext w w' := by
  have h1 := Ext.refl (w.alloc (.cells #[.slice ca c.cl.length cc, .int .i64 c.page, .slice ta c.ts.length tc, .int .i64 c.wk, .int .i64 c.gr, .int .i64 c.gens] 25))
  have hx := (Ext.refl w).alloc (.cells #[.slice ca c.cl.length cc, .int .i64 c.page, .slice ta c.ts.length tc, .int .i64 c.wk, .int .i64 c.gr, .int .i64 c.gens] 25)
  have H := Lib.hid h; clear h
  by_cases hth : there c t k
  · obtain ⟨i, j, rfl, rfl, hi, hj, ho⟩ := there_nat hth
    have HSL := Lib.hid (kslots_yes hth)
    rw [kpages_yes hth] at hpq
    obtain ⟨rfl, rfl⟩ : pagesOf c i j = p ∧ 0 = q := by simpa using hpq
    clear hpq
    have c8 := ho.cl.most
    have bd := ho.bounds hi hj
    have u1 := bd.c2; have u2 := bd.cpage; have u3 := bd.p64; have u4 := bd.c64; have u5 := bd.s1; have u6 := bd.s2048; have u7 := bd.per1; have u8 := bd.per32; have u9 := bd.pg2048
    have HS := Lib.hid (show pagesOf c i j = (slotsOf c i j + perOf c j - 1) / perOf c j from rfl)
    have HP := Lib.hid (show c.page / nth c.cl j = perOf c j from rfl)
    obtain ⟨cb, co, rfl, hc⟩ := H.out.cl.pos (by omega)
    have hcj := hc j hj
    clear hc bd ho hth
    generalize pagesOf c i j = pg at *
    generalize slotsOf c i j = s at *
    generalize perOf c j = pe at *
    generalize nth c.cl j = x at *
    go_enter Tryd.func99, Tryd.ntmps99
    go_wp2_with fail
    refine (ref06_Slots c _ _ _ _ HSL.out (H.out.ext (hx.trans h1))).mono ?_
    rintro e w1 ⟨rfl, h2⟩
    replace h1 := h1.trans h2
    clear h2
    obtain ⟨b0, b1, b2, b3, b4, b5⟩ := box6 h1
    go_wp2_with fail
    all_goals (try clear b0 b1 b2 b3 b4 b5)
    go_loopw [10] (fun i wr => ∃ k : Nat, i = .int .i64 k ∧ (k : Int) ≤ pg ∧ Ext (w.alloc (.cells #[.slice (some ⟨cb, co, none⟩) c.cl.length cc, .int .i64 c.page, .slice ta c.ts.length tc, .int .i64 c.wk, .int .i64 c.gr, .int .i64 c.gens] 25)) wr) (fun i _ => 2048 - (intOf i).toNat)
    case atStart => exact ⟨0, rfl, by have := HS.out; rw [this]; exact Int.ediv_nonneg (by omega) (by omega), h1⟩
    case round =>
      clear h1
      obtain ⟨k, rfl, hk, h1⟩ := hrel
      obtain ⟨b0, b1, b2, b3, b4, b5⟩ := box6 h1
      have z1 := (hx.trans h1).cell hcj
      have m1 : (k : Int) * pe ≤ 2048 * 32 := by
        have a1 := Int.mul_le_mul_of_nonneg_left (c := (k : Int)) u8 (by omega)
        omega
      have m0 : 0 ≤ (k : Int) * pe := Int.mul_nonneg (by omega) (by omega)
      have hpe := HP.out
      have hm : IntKind.i64.wrap ((k : Int) * pe) = (k : Int) * pe := IntWalk.i64_in _ (by omega)
      by_cases hlt : (k : Int) * pe < s
      · have hup := pages_up u7 hlt
        rw [← HS.out] at hup
        go_wp2_with fail
        go_quiet (fail)
        go_wp2_with fail
        go_roundw
        case rel => exact ⟨k + 1, by go_num, by omega, h1.drewN _⟩
        case measure => simp [intOf]; omega
      · have hd : decide ((k : Int) * pe < s) = false := by simpa using hlt
        have hend := pages_end u7 (by rw [← HS.out]; exact hk) (by omega)
        have HE := Lib.hid (hend.trans HS.out.symm)
        clear hend
        go_wp2_with fail
        go_quiet (fail)
        go_wp2_with fail
        go_ret2
        exact ⟨by rw [← HE.out]; rfl, (hx.trans h1).drewN _⟩
  · have HSL := Lib.hid (kslots_no hth)
    rw [kpages_no hth] at hpq
    obtain ⟨rfl, rfl⟩ : 0 = p ∧ 2 = q := by simpa using hpq
    clear hpq hth
    go_enter Tryd.func99, Tryd.ntmps99
    go_wp2_with fail
    refine (ref06_Slots c _ _ _ _ HSL.out (H.out.ext (hx.trans h1))).mono ?_
    rintro e w2 ⟨rfl, h2⟩
    replace h1 := h1.trans h2
    clear h2
    obtain ⟨b0, b1, b2, b3, b4, b5⟩ := box6 h1
    go_wp2_with fail
    all_goals (try clear b0 b1 b2 b3 b4 b5)
    go_ret2
    exact ⟨rfl, hx.trans h1⟩

set_option maxHeartbeats 2000000 in
theorem ref06_Region {ca ta : Option Addr} {cc tc : Nat} (c : Conf) (t p q : Int) {w : World} (hpq : kregion c t = (p, q)) (h : CfgAt w ca ta cc tc c) :
    Calls Tryd.prog 79 #[.agg #[.slice ca c.cl.length cc, .int .i64 c.page, .slice ta c.ts.length tc, .int .i64 c.wk, .int .i64 c.gr, .int .i64 c.gens], .int .i64 t] w fun e w' => e = .returned (.tuple #[.int .i64 p, .int .i64 q]) ∧ Ext w w' := by
  have h1 := Ext.refl (w.alloc (.cells #[.slice ca c.cl.length cc, .int .i64 c.page, .slice ta c.ts.length tc, .int .i64 c.wk, .int .i64 c.gr, .int .i64 c.gens] 25))
  have hx := (Ext.refl w).alloc (.cells #[.slice ca c.cl.length cc, .int .i64 c.page, .slice ta c.ts.length tc, .int .i64 c.wk, .int .i64 c.gr, .int .i64 c.gens] 25)
  have H := Lib.hid h; clear h
  by_cases hth : there c t 0
  · obtain ⟨i, j, rfl, hz, hi, hj, ho⟩ := there_nat hth
    rw [kregion_yes hth] at hpq
    obtain ⟨rfl, rfl⟩ : wordsOf c i = p ∧ 0 = q := by simpa using hpq
    have HTH := Lib.hid (show decide (there c i 0) = true by simpa using hth)
    have HO := Lib.hid ho
    have HK := Lib.hid ((kcheck_iff c).2 ho)
    have c8 := ho.cl.most
    have HG := Lib.hid (show wordsOf c i = sumTo (fun j => pagesOf c i j * c.page) c.cl.length from rfl)
    clear hpq hz hth ho hj
    go_enter Tryd.func79, Tryd.ntmps79
    go_wp2_with fail
    refine (ref06_there c _ _ true HTH.out (H.out.ext (hx.trans h1))).mono ?_
    rintro e w1 ⟨rfl, h2⟩
    replace h1 := h1.trans h2
    clear h2
    obtain ⟨b0, b1, b2, b3, b4, b5⟩ := box6 h1
    go_wp2_with fail
    all_goals (try clear b0 b1 b2 b3 b4 b5)
    go_loopw [6, 7] (fun u n wr => ∃ k : Nat, k ≤ c.cl.length ∧ n = .int .i64 k ∧ u = .int .i64 (sumTo (fun j => pagesOf c i j * c.page) k) ∧ Ext (w.alloc (.cells #[.slice ca c.cl.length cc, .int .i64 c.page, .slice ta c.ts.length tc, .int .i64 c.wk, .int .i64 c.gr, .int .i64 c.gens] 25)) wr) (fun _ n _ => c.cl.length - (intOf n).toNat)
    case atStart => exact ⟨0, Nat.zero_le _, rfl, rfl, h1⟩
    case round =>
      clear h1
      obtain ⟨k, hk, rfl, rfl, h1⟩ := hrel
      obtain ⟨b0, b1, b2, b3, b4, b5⟩ := box6 h1
      by_cases hlt : k < c.cl.length
      · have hv := HO.out.page_bound hi hlt
        have hu := sumTo_bound (fun j => pagesOf c i j * c.page) 131072 k (fun j hj => HO.out.page_bound hi (by omega))
        have hu2 : sumTo (fun j => pagesOf c i j * c.page) (k + 1) = sumTo (fun j => pagesOf c i j * c.page) k + pagesOf c i k * c.page := rfl
        have HU := Lib.hid hu2; clear hu2
        have HPG := Lib.hid (kpages_yes (there_mk HK.out hi hlt))
        have hwr : IntKind.i64.wrap (pagesOf c i k * c.page) = pagesOf c i k * c.page := IntWalk.i64_in _ (by omega)
        have HWR := Lib.hid hwr
        clear hwr
        generalize sumTo (fun j => pagesOf c i j * c.page) k = u at *
        generalize pagesOf c i k = pg at *
        go_wp2_with fail
        refine (ref06_Pages c _ _ _ _ HPG.out (H.out.ext (hx.trans h1))).mono ?_
        clear b0 b1 b2 b3 b4 b5
        rintro e w2 ⟨rfl, h2⟩
        replace h1 := h1.trans h2
        clear h2
        obtain ⟨b0, b1, b2, b3, b4, b5⟩ := box6 h1
        have hwr := HWR.out
        go_wp2_with fail
        go_roundw
        case rel => exact ⟨k + 1, by omega, by go_num, by rw [HU.out], h1⟩
        case measure => simp [intOf]; omega
      · obtain rfl : k = c.cl.length := by omega
        go_wp2_with fail
        go_ret2
        exact ⟨by rw [HG.out]; rfl, hx.trans h1⟩
  · rw [kregion_no hth] at hpq
    obtain ⟨rfl, rfl⟩ : 0 = p ∧ 2 = q := by simpa using hpq
    have HTH := Lib.hid (show decide (there c t 0) = false by simpa using hth)
    clear hpq hth
    go_enter Tryd.func79, Tryd.ntmps79
    go_wp2_with fail
    refine (ref06_there c _ _ false HTH.out (H.out.ext (hx.trans h1))).mono ?_
    rintro e w2 ⟨rfl, h2⟩
    replace h1 := h1.trans h2
    clear h2
    obtain ⟨b0, b1, b2, b3, b4, b5⟩ := box6 h1
    go_wp2_with fail
    all_goals (try clear b0 b1 b2 b3 b4 b5)
    go_ret2
    exact ⟨rfl, hx.trans h1⟩

set_option maxHeartbeats 2000000 in
theorem ref06_Base {ca ta : Option Addr} {cc tc : Nat} (c : Conf) (t p q : Int) {w : World} (hpq : kbase c t = (p, q)) (h : CfgAt w ca ta cc tc c) :
    Calls Tryd.prog 78 #[.agg #[.slice ca c.cl.length cc, .int .i64 c.page, .slice ta c.ts.length tc, .int .i64 c.wk, .int .i64 c.gr, .int .i64 c.gens], .int .i64 t] w fun e w' => e = .returned (.tuple #[.int .i64 p, .int .i64 q]) ∧ Ext w w' := by
  have h1 := Ext.refl (w.alloc (.cells #[.slice ca c.cl.length cc, .int .i64 c.page, .slice ta c.ts.length tc, .int .i64 c.wk, .int .i64 c.gr, .int .i64 c.gens] 25))
  have hx := (Ext.refl w).alloc (.cells #[.slice ca c.cl.length cc, .int .i64 c.page, .slice ta c.ts.length tc, .int .i64 c.wk, .int .i64 c.gr, .int .i64 c.gens] 25)
  have H := Lib.hid h; clear h
  by_cases hth : there c t 0
  · obtain ⟨i, j, rfl, hz, hi, hj, ho⟩ := there_nat hth
    rw [kbase_yes hth] at hpq
    obtain ⟨rfl, rfl⟩ : baseOf c i = p ∧ 0 = q := by simpa using hpq
    have HTH := Lib.hid (show decide (there c i 0) = true by simpa using hth)
    have HO := Lib.hid ho
    have HK := Lib.hid ((kcheck_iff c).2 ho)
    have t8 := ho.head.2.2.2.1
    have HC1 := Lib.hid ho.cl.pos
    have HG := Lib.hid (show baseOf c i = sumTo (wordsOf c) i from rfl)
    clear hpq hz hth ho hj
    go_enter Tryd.func78, Tryd.ntmps78
    go_wp2_with fail
    refine (ref06_there c _ _ true HTH.out (H.out.ext (hx.trans h1))).mono ?_
    rintro e w1 ⟨rfl, h2⟩
    replace h1 := h1.trans h2
    clear h2
    obtain ⟨b0, b1, b2, b3, b4, b5⟩ := box6 h1
    go_wp2_with fail
    all_goals (try clear b0 b1 b2 b3 b4 b5)
    go_loopw [6, 7] (fun u n wr => ∃ k : Nat, k ≤ i ∧ n = .int .i64 k ∧ u = .int .i64 (sumTo (wordsOf c) k) ∧ Ext (w.alloc (.cells #[.slice ca c.cl.length cc, .int .i64 c.page, .slice ta c.ts.length tc, .int .i64 c.wk, .int .i64 c.gr, .int .i64 c.gens] 25)) wr) (fun _ n _ => i - (intOf n).toNat)
    case atStart => exact ⟨0, Nat.zero_le _, rfl, rfl, h1⟩
    case round =>
      clear h1
      obtain ⟨k, hk, rfl, rfl, h1⟩ := hrel
      obtain ⟨b0, b1, b2, b3, b4, b5⟩ := box6 h1
      by_cases hlt : k < i
      · have hv := HO.out.words_bound (t := k) (by omega)
        have hu := sumTo_bound (wordsOf c) 1048576 k (fun j hj => HO.out.words_bound (by omega))
        have hu2 : sumTo (wordsOf c) (k + 1) = sumTo (wordsOf c) k + wordsOf c k := rfl
        have HU := Lib.hid hu2; clear hu2
        have HPG := Lib.hid (kregion_yes (there_mk (i := k) HK.out (by omega) HC1.out))
        generalize sumTo (wordsOf c) k = u at *
        generalize wordsOf c k = wd at *
        go_wp2_with fail
        refine (ref06_Region c _ _ _ HPG.out (H.out.ext (hx.trans h1))).mono ?_
        clear b0 b1 b2 b3 b4 b5
        rintro e w2 ⟨rfl, h2⟩
        replace h1 := h1.trans h2
        clear h2
        go_wp2_with fail
        go_roundw
        case rel => exact ⟨k + 1, by omega, by go_num, by rw [HU.out], h1⟩
        case measure => simp [intOf]; omega
      · obtain rfl : k = i := by omega
        go_wp2_with fail
        go_ret2
        exact ⟨by rw [HG.out]; rfl, hx.trans h1⟩
  · rw [kbase_no hth] at hpq
    obtain ⟨rfl, rfl⟩ : 0 = p ∧ 2 = q := by simpa using hpq
    have HTH := Lib.hid (show decide (there c t 0) = false by simpa using hth)
    clear hpq hth
    go_enter Tryd.func78, Tryd.ntmps78
    go_wp2_with fail
    refine (ref06_there c _ _ false HTH.out (H.out.ext (hx.trans h1))).mono ?_
    rintro e w2 ⟨rfl, h2⟩
    replace h1 := h1.trans h2
    clear h2
    obtain ⟨b0, b1, b2, b3, b4, b5⟩ := box6 h1
    go_wp2_with fail
    all_goals (try clear b0 b1 b2 b3 b4 b5)
    go_ret2
    exact ⟨rfl, hx.trans h1⟩

set_option maxHeartbeats 2000000 in
theorem ref06_Total {ca ta : Option Addr} {cc tc : Nat} (c : Conf) (p q : Int) {w : World} (hpq : ktotal c = (p, q)) (h : CfgAt w ca ta cc tc c) :
    Calls Tryd.prog 44 #[.agg #[.slice ca c.cl.length cc, .int .i64 c.page, .slice ta c.ts.length tc, .int .i64 c.wk, .int .i64 c.gr, .int .i64 c.gens]] w fun e w' => e = .returned (.tuple #[.int .i64 p, .int .i64 q]) ∧ Ext w w' := by
  have h1 := Ext.refl (w.alloc (.cells #[.slice ca c.cl.length cc, .int .i64 c.page, .slice ta c.ts.length tc, .int .i64 c.wk, .int .i64 c.gr, .int .i64 c.gens] 25))
  have hx := (Ext.refl w).alloc (.cells #[.slice ca c.cl.length cc, .int .i64 c.page, .slice ta c.ts.length tc, .int .i64 c.wk, .int .i64 c.gr, .int .i64 c.gens] 25)
  have tm := h.tm
  unfold maxLen at tm
  have H := Lib.hid h; clear h
  by_cases h0 : kcheck c = 0
  · have ho := kcheck_ok h0
    obtain ⟨rfl, rfl⟩ : baseOf c c.ts.length = p ∧ 0 = q := by unfold ktotal at hpq; rw [if_pos h0] at hpq; simpa using hpq
    have t1 := ho.head.2.2.1
    have t8 := ho.head.2.2.2.1
    have th := there_mk (i := c.ts.length - 1) h0 (by omega) ho.cl.pos
    have e1 : ((c.ts.length - 1 : Nat) : Int) = (c.ts.length : Int) - 1 := by omega
    have HB := Lib.hid (kbase_yes th)
    have HR := Lib.hid (kregion_yes th)
    rw [e1] at HB HR
    have hb := ho.base_bound (t := c.ts.length - 1) (by omega)
    have hw := ho.words_bound (t := c.ts.length - 1) (by omega)
    have HG := Lib.hid (show baseOf c c.ts.length = baseOf c (c.ts.length - 1) + wordsOf c (c.ts.length - 1) by
      have : c.ts.length = (c.ts.length - 1) + 1 := by omega
      rw [this]; rfl)
    clear hpq h0 ho e1 th
    generalize baseOf c (c.ts.length - 1) = u at *
    generalize wordsOf c (c.ts.length - 1) = v at *
    go_enter Tryd.func44, Tryd.ntmps44
    go_wp2_with fail
    try clear b0 b1 b2 b3 b4 b5
    refine (ref06_Base c _ _ _ HB.out (H.out.ext (hx.trans h1))).mono ?_
    rintro e w1 ⟨rfl, h2⟩
    replace h1 := h1.trans h2
    clear h2
    obtain ⟨b0, b1, b2, b3, b4, b5⟩ := box6 h1
    go_wp2_with fail
    clear b0 b1 b2 b3 b4 b5
    refine (ref06_Region c _ _ _ HR.out (H.out.ext (hx.trans h1))).mono ?_
    rintro e w2 ⟨rfl, h2⟩
    replace h1 := h1.trans h2
    clear h2
    go_wp2_with fail
    go_ret2
    exact ⟨by rw [HG.out]; rfl, hx.trans h1⟩
  · obtain ⟨rfl, rfl⟩ : 0 = p ∧ 2 = q := by unfold ktotal at hpq; rw [if_neg h0] at hpq; simpa using hpq
    have HB := Lib.hid (kbase_no (c := c) (t := (c.ts.length : Int) - 1) (fun h => h0 h.1))
    clear h0 hpq
    go_enter Tryd.func44, Tryd.ntmps44
    go_wp2_with fail
    refine (ref06_Base c _ _ _ HB.out (H.out.ext (hx.trans h1))).mono ?_
    rintro e w3 ⟨rfl, h2⟩
    replace h1 := h1.trans h2
    clear h2
    obtain ⟨b0, b1, b2, b3, b4, b5⟩ := box6 h1
    go_wp2_with fail
    all_goals (try clear b0 b1 b2 b3 b4 b5)
    go_ret2
    exact ⟨rfl, hx.trans h1⟩

end Go.Proofs.YtlhajoamebfniaaDoor
