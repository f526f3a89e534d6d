/-
  commonagelaw09: great; the walk of SlotClasses.
-/
import Derived.Test.YtmjgmgaklgcdnaaLaw09a
import Derived.Test.YtmjgmgaklgcdnaaLaw06f
namespace Go.Proofs.Ytmjgmgaklgcdnaa
open Go.RowKit

theorem mod_nat {tn : Int} {n : Nat} (hn : 1 ≤ n) : ∃ i : Nat, tn % (n : Int) = i ∧ i < n := by
  have h1 := Int.emod_nonneg tn (by omega : (n : Int) ≠ 0)
  have h2 := Int.emod_lt_of_pos tn (by omega : 0 < (n : Int))
  exact ⟨(tn % n).toNat, by omega, by omega⟩

/-- More than a statement looks at. -/
def bigC (c : Conf) : Bool := !(decide (c.cl.length ≤ 50 ∧ c.ts.length ≤ 50)) || decide (6000 < (ktotal c).1)

set_option maxHeartbeats 2000000 in
theorem law09_great {ca ta : Option Addr} {cc tc : Nat} (c : Conf) (b : Bool) {w : World} (hb : bigC c = b) (h : CfgAt w ca ta cc tc c) :
    Calls Try.prog 26 #[.agg #[.slice ca c.cl.length cc, .int .i64 c.page, .slice ta c.ts.length tc, .int .i64 c.wk, .int .i64 c.gr, .int .i64 c.gens]] w fun e w' => e = .returned (.bool b) ∧ Ext w w' := by
  have h1 := Ext.refl (w.alloc (.cells #[.slice ca c.cl.length cc, .int .i64 c.page, .slice ta c.ts.length tc, .int .i64 c.wk, .int .i64 c.gr, .int .i64 c.gens] 25))
  have hx := (Ext.refl w).alloc (.cells #[.slice ca c.cl.length cc, .int .i64 c.page, .slice ta c.ts.length tc, .int .i64 c.wk, .int .i64 c.gr, .int .i64 c.gens] 25)
  obtain ⟨⟨p, q⟩, hpq⟩ : ∃ pq, ktotal c = pq := ⟨_, rfl⟩
  have PQ := Lib.hid hpq
  have H := Lib.hid h; clear h
  unfold bigC at hb
  rw [hpq] at hb
  by_cases hs : c.cl.length ≤ 50 ∧ c.ts.length ≤ 50
  · have HS := Lib.hid (show decide (c.cl.length ≤ 50 ∧ c.ts.length ≤ 50) = true by simpa using hs)
    have hp : decide (6000 < p) = b := by rw [← hb, decide_eq_true hs]; rfl
    clear hs hb hpq
    go_enter Try.func26, Try.ntmps26
    go_wp2_with fail
    try clear b0 b1 b2 b3 b4 b5
    refine (ref06_Total c p q PQ.out (H.out.ext (hx.trans h1))).mono ?_
    rintro e w1 ⟨rfl, h2⟩
    replace h1 := h1.trans h2
    clear h2
    obtain ⟨b0, b1, b2, b3, b4, b5⟩ := box6 h1
    go_wp2_with fail
    refine (ref06_Small c true HS.out (H.out.ext (hx.trans h1))).mono ?_
    rintro e w2 ⟨rfl, h2⟩
    replace h1 := h1.trans h2
    clear h2
    obtain ⟨b0, b1, b2, b3, b4, b5⟩ := box6 h1
    go_wp2_with fail
    all_goals (try clear b0 b1 b2 b3 b4 b5)
    go_ret
    exact ⟨rfl, hx.trans h1⟩
  · have HS := Lib.hid (show decide (c.cl.length ≤ 50 ∧ c.ts.length ≤ 50) = false by simpa using hs)
    have hp : b = true := by rw [← hb, decide_eq_false hs]; rfl
    subst hp
    clear hs hb hpq
    go_enter Try.func26, Try.ntmps26
    go_wp2_with fail
    try clear b0 b1 b2 b3 b4 b5
    refine (ref06_Total c p q PQ.out (H.out.ext (hx.trans h1))).mono ?_
    rintro e w3 ⟨rfl, h2⟩
    replace h1 := h1.trans h2
    clear h2
    obtain ⟨b0, b1, b2, b3, b4, b5⟩ := box6 h1
    go_wp2_with fail
    refine (ref06_Small c false HS.out (H.out.ext (hx.trans h1))).mono ?_
    rintro e w4 ⟨rfl, h2⟩
    replace h1 := h1.trans h2
    clear h2
    obtain ⟨b0, b1, b2, b3, b4, b5⟩ := box6 h1
    go_wp2_with fail
    all_goals (try clear b0 b1 b2 b3 b4 b5)
    go_ret
    exact ⟨rfl, hx.trans h1⟩

set_option maxRecDepth 100000 in
set_option maxHeartbeats 8000000 in
theorem law09_SlotClasses {ca ta : Option Addr} {cc tc : Nat} (c : Conf) (tn : Int) (w : World) (htn : 0 ≤ tn ∧ tn ≤ 255) (h : CfgAt w ca ta cc tc c) :
    Calls Try.prog 10 #[.agg #[.slice ca c.cl.length cc, .int .i64 c.page, .slice ta c.ts.length tc, .int .i64 c.wk, .int .i64 c.gr, .int .i64 c.gens], .int .u8 tn] w fun e w' => e = .returned (.bool true) ∧ Ext w w' := by
  have h1 := Ext.refl (w.alloc (.cells #[.slice ca c.cl.length cc, .int .i64 c.page, .slice ta c.ts.length tc, .int .i64 c.wk, .int .i64 c.gr, .int .i64 c.gens] 25))
  have hx := (Ext.refl w).alloc (.cells #[.slice ca c.cl.length cc, .int .i64 c.page, .slice ta c.ts.length tc, .int .i64 c.wk, .int .i64 c.gr, .int .i64 c.gens] 25)
  have tm := h.tm
  have cm := h.cm
  unfold maxLen at tm cm
  obtain ⟨t0, t255⟩ := htn
  have H := Lib.hid h; clear h
  cases hg : bigC c
  · have HG := Lib.hid hg
    clear hg
    by_cases h0 : kcheck c = 0
    · have ho := kcheck_ok h0
      have H0 := Lib.hid h0
      have HO := Lib.hid ho
      obtain ⟨i, hmod, hi⟩ := mod_nat (tn := tn) ho.head.2.2.1
      have t1 := ho.head.2.2.1
      have t8 := ho.head.2.2.2.1
      have c8 := ho.cl.most
      clear h0 ho
      go_enter Try.func10, Try.ntmps10
      go_wp2_with fail
      try clear b0 b1 b2 b3 b4 b5
      refine (law09_great c false HG.out (H.out.ext (hx.trans h1))).mono ?_
      rintro e w1 ⟨rfl, h2⟩
      replace h1 := h1.trans h2
      clear h2
      obtain ⟨b0, b1, b2, b3, b4, b5⟩ := box6 h1
      go_wp2_with fail
      try clear b0 b1 b2 b3 b4 b5
      refine (ref06_Check c 0 H0.out (H.out.ext (hx.trans h1))).mono ?_
      rintro e w2 ⟨rfl, h2⟩
      replace h1 := h1.trans h2
      clear h2
      obtain ⟨b0, b1, b2, b3, b4, b5⟩ := box6 h1
      go_wp2_with fail
      try clear b0 b1 b2 b3 b4 b5
      refine (slot_New c i H0.out hi (H.out.ext (hx.trans h1))).mono ?_
      rintro e w3 ⟨b, gp, rfl, hp, x⟩
      have HP := Lib.hid hp
      replace h1 := h1.trans x
      clear hp x
      obtain ⟨b0, b1, b2, b3, b4, b5⟩ := box6 h1
      go_wp2_with fail
      clear b0 b1 b2 b3 b4 b5
      go_loopw [8, 9] (fun a n wr => ∃ k : Nat, k ≤ c.cl.length ∧ n = .int .i64 k ∧ a = .int .i64 (sS c i k) ∧ Hid (PlanAt wr b gp c i) ∧ Ext (w.alloc (.cells #[.slice ca c.cl.length cc, .int .i64 c.page, .slice ta c.ts.length tc, .int .i64 c.wk, .int .i64 c.gr, .int .i64 c.gens] 25)) wr) (fun _ n _ => c.cl.length - (intOf n).toNat)
      case atStart => exact ⟨0, Nat.zero_le _, rfl, rfl, HP, h1⟩
      case round =>
        clear h1 HP
        obtain ⟨k, hk, rfl, rfl, HP, h1⟩ := hrel
        obtain ⟨b0, b1, b2, b3, b4, b5⟩ := box6 h1
        by_cases hlt : k < c.cl.length
        · have bd := HO.out.bounds hi hlt
          have u1 := bd.c2; have u2 := bd.c64; have u3 := bd.s1; have u4 := bd.s2048; have u5 := bd.cq; have u6 := bd.q4096
          have v := HO.out.sS_le hi hk
          have v1 := v.1; have v2 := v.2
          clear v bd
          obtain ⟨cb, co, rfl, hc⟩ := H.out.cl.pos (by omega)
          obtain ⟨tb, to_, rfl, ht⟩ := H.out.ts.pos (by omega)
          have hck := hc k hlt
          have htk := (ht i hi).1
          clear hc ht
          go_wp2_with fail
          try clear b0 b1 b2 b3 b4 b5
          refine (slot_Of HP.out hlt).mono ?_
          rintro e w4 ⟨rfl, x⟩
          replace HP := Lib.hid (HP.out.ext x); replace h1 := h1.trans x
          clear x
          obtain ⟨b0, b1, b2, b3, b4, b5⟩ := box6 h1
          have z1 := (hx.trans h1).cell hck
          have z2 := (hx.trans h1).cell htk
          have g2 : IntKind.i64.wrap ((tnth c.ts i).q.tdiv (nth c.cl k)) = slotsOf c i k := IntWalk.i64_quo _ _ (by omega)
          go_wp2_with fail
          go_quiet (fail)
          go_wp2_with fail
          clear b0 b1 b2 b3 b4 b5 z1 z2 g2
          go_loopw [13] (fun n wr => ∃ s : Int, sS c i k ≤ s ∧ s ≤ sS c i k + slotsOf c i k ∧ n = .int .i64 s ∧ Hid (PlanAt wr b gp c i) ∧ Ext (w.alloc (.cells #[.slice (some ⟨cb, co, none⟩) c.cl.length cc, .int .i64 c.page, .slice (some ⟨tb, to_, none⟩) c.ts.length tc, .int .i64 c.wk, .int .i64 c.gr, .int .i64 c.gens] 25)) wr) (fun n _ => (sS c i k + slotsOf c i k - intOf n).toNat)
          case atStart => exact ⟨_, Int.le_refl _, by omega, rfl, Lib.hid (HP.out.ext ((Ext.refl _).drewN _)), h1.drewN _⟩
          case round =>
            clear h1 HP
            obtain ⟨s, s1, s2, rfl, HP, h1⟩ := hrel
            by_cases hs : s < sS c i k + slotsOf c i k
            · have AC := Lib.hid (show AtClass c i s k from ⟨hlt, s1, hs⟩)
              go_wp2_with fail
              refine (slot_Class HP.out AC.out).mono ?_
              rintro e w5 ⟨rfl, x⟩
              replace HP := Lib.hid (HP.out.ext x); replace h1 := h1.trans x
              clear x
              go_wp2_with fail
              refine (slot_Size HP.out AC.out).mono ?_
              rintro e w6 ⟨rfl, x⟩
              replace HP := Lib.hid (HP.out.ext x); replace h1 := h1.trans x
              clear x
              obtain ⟨b0, b1, b2, b3, b4, b5⟩ := box6 h1
              have z1 := (hx.trans h1).cell hck
              go_wp2_with fail
              go_roundw
              case rel => exact ⟨s + 1, by omega, by omega, by go_num, HP, h1⟩
              case measure => simp [intOf]; omega
            · have he : s = sS c i k + slotsOf c i k := by omega
              subst he
              go_wp2_with fail
              go_roundw
              case rel => exact ⟨k + 1, by omega, by go_num, by go_num, HP, h1⟩
              case measure => simp [intOf]; omega
        · have hke : k = c.cl.length := by omega
          subst hke
          go_wp2_with fail
          try clear b0 b1 b2 b3 b4 b5
          refine (slot_Of_no HP.out (by omega)).mono ?_
          rintro e w4 ⟨rfl, x⟩
          replace HP := Lib.hid (HP.out.ext x); replace h1 := h1.trans x
          clear x
          go_wp2_with fail
          refine (slot_Slots HP.out).mono ?_
          rintro e w1002 ⟨rfl, rfl⟩
          go_wp2_with fail
          refine (law09_awake _).mono ?_
          rintro e w3 ⟨rfl, h2⟩
          replace h1 := h1.trans h2
          clear h2
          go_wp2_with fail
          go_ret
          exact ⟨rfl, hx.trans h1⟩
    · have h2 : kcheck c = 2 := (kcheck_01 _).resolve_left h0
      have H2 := Lib.hid h2
      clear h0 h2
      go_enter Try.func10, Try.ntmps10
      go_wp2_with fail
      try clear b0 b1 b2 b3 b4 b5
      refine (law09_great c false HG.out (H.out.ext (hx.trans h1))).mono ?_
      rintro e w4 ⟨rfl, h2⟩
      replace h1 := h1.trans h2
      clear h2
      obtain ⟨b0, b1, b2, b3, b4, b5⟩ := box6 h1
      go_wp2_with fail
      refine (ref06_Check c 2 H2.out (H.out.ext (hx.trans h1))).mono ?_
      rintro e w5 ⟨rfl, h2⟩
      replace h1 := h1.trans h2
      clear h2
      obtain ⟨b0, b1, b2, b3, b4, b5⟩ := box6 h1
      go_wp2_with fail
      all_goals (try clear b0 b1 b2 b3 b4 b5)
      refine (law09_awake _).mono ?_
      rintro e w6 ⟨rfl, h2⟩
      replace h1 := h1.trans h2
      clear h2
      go_wp2_with fail
      go_ret
      exact ⟨rfl, hx.trans h1⟩
  · have HG := Lib.hid hg
    clear hg
    go_enter Try.func10, Try.ntmps10
    go_wp2_with fail
    refine (law09_great c true HG.out (H.out.ext (hx.trans h1))).mono ?_
    rintro e w7 ⟨rfl, h2⟩
    replace h1 := h1.trans h2
    clear h2
    obtain ⟨b0, b1, b2, b3, b4, b5⟩ := box6 h1
    go_wp2_with fail
    all_goals (try clear b0 b1 b2 b3 b4 b5)
    refine (law09_awake _).mono ?_
    rintro e w8 ⟨rfl, h2⟩
    replace h1 := h1.trans h2
    clear h2
    go_wp2_with fail
    go_ret
    exact ⟨rfl, hx.trans h1⟩

end Go.Proofs.Ytmjgmgaklgcdnaa
