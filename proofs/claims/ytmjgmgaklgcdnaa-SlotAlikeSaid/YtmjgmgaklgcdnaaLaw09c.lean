/-
  commonagelaw09: the walk of SlotAlike.
-/
import Derived.Test.YtmjgmgaklgcdnaaLaw09b
namespace Go.Proofs.Ytmjgmgaklgcdnaa
open Go.RowKit

/-- The configuration of one tenant alone. -/
def oneT (c : Conf) (i : Nat) : Conf := ⟨c.cl, c.page, [tnth c.ts i], c.wk, c.gr, c.gens⟩
theorem oneT_ok {c : Conf} {i : Nat} (h : kcheck c = 0) (hi : i < c.ts.length) : kcheck (oneT c i) = 0 := by
  have k := kcheck_ok h
  refine (kcheck_iff _).2 ⟨k.cl, ?_, fun j hj => ?_⟩
  · obtain ⟨h1, h2, h3, h4, h5⟩ := k.head
    exact ⟨h1, h2, by simp [oneT], by simp [oneT], h5⟩
  · have : j = 0 := by simp [oneT] at hj; exact hj
    subst this
    exact k.ten i hi
theorem TenAt.one {w : World} {tb to_ : Nat} {ts : List Ten} (h : TenAt w (some ⟨tb, to_, none⟩) ts) {i : Nat} (hi : i < ts.length) : TenAt w (some ⟨tb, to_ + i * 4, none⟩) [tnth ts i] := by
  intro j hj
  have : j = 0 := by simpa using hj
  subst this
  obtain ⟨b, o, e, h0, h1, h2, h3⟩ := h i hi
  cases e
  exact ⟨tb, to_ + i * 4, rfl, h0, h1, h2, h3⟩
theorem CfgAt.one {w : World} {ca : Option Addr} {tb to_ cc tc : Nat} {c : Conf} (h : CfgAt w ca (some ⟨tb, to_, none⟩) cc tc c) {i : Nat} (hi : i < c.ts.length) :
    CfgAt w ca (some ⟨tb, to_ + i * 4, none⟩) cc (tc - i) (oneT c i) :=
  ⟨h.cl, h.ts.one hi, h.cm, by simp [oneT, maxLen], h.ccap, by have := h.tcap; simp [oneT]; omega, h.ccm, by have := h.tcm; omega⟩

theorem slot_SlotsV {b gp : Nat} {c : Conf} {t : Nat} (n : Int) {w : World} (hn : sS c t c.cl.length = n) (h : PlanAt w b gp c t) : Calls Try.prog 29 #[.pointer (some ⟨b, 0, none⟩)] w fun e w' => e = .returned (.int .i64 n) ∧ w = w' := by
  subst hn; exact slot_Slots h
theorem slot_PagesV {b gp : Nat} {c : Conf} {t : Nat} (n : Int) {w : World} (hn : sG c t c.cl.length = n) (h : PlanAt w b gp c t) : Calls Try.prog 30 #[.pointer (some ⟨b, 0, none⟩)] w fun e w' => e = .returned (.int .i64 n) ∧ w = w' := by
  subst hn; exact slot_Pages h
theorem slot_WordsV {b gp : Nat} {c : Conf} {t : Nat} (n : Int) {w : World} (hn : sG c t c.cl.length * c.page = n) (h : PlanAt w b gp c t) : Calls Try.prog 31 #[.pointer (some ⟨b, 0, none⟩)] w fun e w' => e = .returned (.int .i64 n) ∧ Ext w w' := by
  subst hn; exact slot_Words h
theorem slot_AddrV {b gp k : Nat} {c : Conf} {t : Nat} {s : Int} (a : Int) {w : World} (ha : addrOf c t s k = a) (h : PlanAt w b gp c t) (hk : AtClass c t s k) :
    Calls Try.prog 32 #[.pointer (some ⟨b, 0, none⟩), .int .i64 s] w fun e w' => e = .returned (.tuple #[.int .i64 a, .int .i64 0]) ∧ Ext w w' := by
  subst ha; exact slot_Addr h hk
theorem slot_PageV {b gp k : Nat} {c : Conf} {t : Nat} {s : Int} (a : Int) {w : World} (ha : pageOf c t s k = a) (h : PlanAt w b gp c t) (hk : AtClass c t s k) :
    Calls Try.prog 33 #[.pointer (some ⟨b, 0, none⟩), .int .i64 s] w fun e w' => e = .returned (.tuple #[.int .i64 a, .int .i64 0]) ∧ Ext w w' := by
  subst ha; exact slot_Page h hk
theorem slot_SizeV {b gp k : Nat} {c : Conf} {t : Nat} {s : Int} (a : Int) {w : World} (ha : nth c.cl k = a) (h : PlanAt w b gp c t) (hk : AtClass c t s k) :
    Calls Try.prog 34 #[.pointer (some ⟨b, 0, none⟩), .int .i64 s] w fun e w' => e = .returned (.tuple #[.int .i64 a, .int .i64 0]) ∧ Ext w w' := by
  subst ha; exact slot_Size h hk
theorem slot_NewN {ca ta : Option Addr} {cc tc n : Nat} {cl : List Int} {page wk gr gens : Int} (c : Conf) (i : Int) {w : World} (hk0 : kcheck c = 0) (h : CfgAt w ca ta cc tc c) (j : Nat) (hj : i = j) (hi : j < c.ts.length)
    (hn : c.ts.length = n) (h1 : c.cl = cl) (h2 : c.page = page) (h3 : c.wk = wk) (h4 : c.gr = gr) (h5 : c.gens = gens) :
    Calls Try.prog 28 #[.agg #[.slice ca cl.length cc, .int .i64 page, .slice ta n tc, .int .i64 wk, .int .i64 gr, .int .i64 gens], .int .i64 i] w (PlanNew c j w) := by
  subst hn h1 h2 h3 h4 h5 hj; exact slot_New c j hk0 hi h

set_option maxRecDepth 100000 in
set_option maxHeartbeats 8000000 in
theorem law09_SlotAlike {ca ta : Option Addr} {cc tc : Nat} (c : Conf) (tn : Int) (w : World) (htn : 0 ≤ tn ∧ tn ≤ 255) (h : CfgAt w ca ta cc tc c) :
    Calls Try.prog 7 #[.agg #[.slice ca c.cl.length cc, .int .i64 c.page, .slice ta c.ts.length tc, .int .i64 c.wk, .int .i64 c.gr, .int .i64 c.gens], .int .u8 tn] w fun e w' => e = .returned (.bool true) ∧ Ext w w' := by
  have h1 := Ext.refl (w.alloc (.cells #[.slice ca c.cl.length cc, .int .i64 c.page, .slice ta c.ts.length tc, .int .i64 c.wk, .int .i64 c.gr, .int .i64 c.gens] 25))
  have hx := (Ext.refl w).alloc (.cells #[.slice ca c.cl.length cc, .int .i64 c.page, .slice ta c.ts.length tc, .int .i64 c.wk, .int .i64 c.gr, .int .i64 c.gens] 25)
  have tm := h.tm
  have cm := h.cm
  have tca := h.tcap
  have tcm := h.tcm
  unfold maxLen at tm cm tcm
  obtain ⟨t0, t255⟩ := htn
  have H := Lib.hid h; clear h
  cases hg : bigC c
  · have HG := Lib.hid hg
    clear hg
    by_cases h0 : kcheck c = 0
    · have ho := kcheck_ok h0
      have H0 := Lib.hid h0
      have HO := Lib.hid ho
      obtain ⟨i, hmod, hi⟩ := mod_nat (tn := tn) ho.head.2.2.1
      have t1 := ho.head.2.2.1
      have t8 := ho.head.2.2.2.1
      have c8 := ho.cl.most
      have H1 := Lib.hid (oneT_ok h0 hi)
      clear h0 ho
      obtain ⟨tb, to_, rfl, ht⟩ := H.out.ts.pos (by omega)
      clear ht
      go_enter Try.func7, Try.ntmps7
      go_wp2_with fail
      try clear b0 b1 b2 b3 b4 b5
      refine (law09_great c false HG.out (H.out.ext (hx.trans h1))).mono ?_
      rintro e w1 ⟨rfl, h2⟩
      replace h1 := h1.trans h2
      clear h2
      obtain ⟨b0, b1, b2, b3, b4, b5⟩ := box6 h1
      go_wp2_with fail
      try clear b0 b1 b2 b3 b4 b5
      refine (ref06_Check c 0 H0.out (H.out.ext (hx.trans h1))).mono ?_
      rintro e w2 ⟨rfl, h2⟩
      replace h1 := h1.trans h2
      clear h2
      obtain ⟨b0, b1, b2, b3, b4, b5⟩ := box6 h1
      have hsz : w.heap.size < w2.heap.size := by have := h1.size; simp at this; omega
      have hi8 : (i : Int) + 1 ≤ tc := by omega
      go_wp2_with fail
      clear b0 b1 b2 b3 b4 b5
      have h3 := Ext.refl (w2.alloc (.cells #[.slice ca c.cl.length cc, .int .i64 c.page, .slice (some ⟨tb, to_ + i * 4, none⟩) 1 (tc - i), .int .i64 c.wk, .int .i64 c.gr, .int .i64 c.gens] 25))
      have hy := (hx.trans h1).alloc (.cells #[.slice ca c.cl.length cc, .int .i64 c.page, .slice (some ⟨tb, to_ + i * 4, none⟩) 1 (tc - i), .int .i64 c.wk, .int .i64 c.gr, .int .i64 c.gens] 25)
      replace h1 := h1.alloc (.cells #[.slice ca c.cl.length cc, .int .i64 c.page, .slice (some ⟨tb, to_ + i * 4, none⟩) 1 (tc - i), .int .i64 c.wk, .int .i64 c.gr, .int .i64 c.gens] 25)
      refine (slot_New c i H0.out hi (H.out.ext hy)).mono ?_
      rintro e w3 ⟨b, gp, rfl, hp, x⟩
      have HP := Lib.hid hp
      replace h1 := h1.trans x
      replace h3 := h3.trans x
      clear hp x
      obtain ⟨d0, d1, d2, d3, d4, d5⟩ := box6 h3
      go_wp2_with fail
      clear d0 d1 d2 d3 d4 d5
      refine (slot_NewN (oneT c i) 0 H1.out ((H.out.one hi).ext (hy.trans h3)) 0 rfl (by simp [oneT]) (by simp [oneT]) rfl rfl rfl rfl rfl).mono ?_
      rintro e w4 ⟨bq, gq, rfl, hq, x⟩
      have HQ := Lib.hid hq
      replace HP := Lib.hid (HP.out.ext x)
      replace h1 := h1.trans x
      clear hq x h3 hy
      go_wp2_with fail
      refine (slot_SlotsV (sS c i c.cl.length) rfl HP.out).mono ?_
      rintro e w9 ⟨rfl, rfl⟩
      go_wp2_with fail
      refine (slot_SlotsV (c := oneT c i) (t := 0) (sS c i c.cl.length) rfl HQ.out).mono ?_
      rintro e w9 ⟨rfl, rfl⟩
      go_wp2_with fail
      refine (slot_PagesV (sG c i c.cl.length) rfl HP.out).mono ?_
      rintro e w9 ⟨rfl, rfl⟩
      go_wp2_with fail
      refine (slot_PagesV (c := oneT c i) (t := 0) (sG c i c.cl.length) rfl HQ.out).mono ?_
      rintro e w9 ⟨rfl, rfl⟩
      go_wp2_with fail
      refine (slot_WordsV (sG c i c.cl.length * c.page) rfl HP.out).mono ?_
      rintro e w9 ⟨rfl, x⟩
      replace HP := Lib.hid (HP.out.ext x); replace HQ := Lib.hid (HQ.out.ext x); replace h1 := h1.trans x
      clear x
      go_wp2_with fail
      refine (slot_WordsV (c := oneT c i) (t := 0) (sG c i c.cl.length * c.page) rfl HQ.out).mono ?_
      rintro e w9 ⟨rfl, x⟩
      replace HP := Lib.hid (HP.out.ext x); replace HQ := Lib.hid (HQ.out.ext x); replace h1 := h1.trans x
      clear x
      go_wp2_with fail
      go_loopw [11] (fun n wr => ∃ s : Int, 0 ≤ s ∧ s ≤ sS c i c.cl.length ∧ n = .int .i64 s ∧ Hid (PlanAt wr b gp c i) ∧ Hid (PlanAt wr bq gq (oneT c i) 0) ∧ Hid (Ext w wr)) (fun n _ => (sS c i c.cl.length - intOf n).toNat)
      case atStart => exact ⟨0, Int.le_refl _, by have := (HO.out.sS_le hi (Nat.le_refl _)).1; omega, rfl, HP, HQ, Lib.hid (hx.trans h1)⟩
      case round =>
        clear h1 HP HQ
        obtain ⟨s, s0, s1, rfl, HP, HQ, h1⟩ := hrel
        replace h1 := h1.out
        have sb := (HO.out.sS_le hi (Nat.le_refl _)).2
        by_cases hlt : s < sS c i c.cl.length
        · obtain ⟨k, hk⟩ := atClass_find s0 hlt
          have AC := Lib.hid hk
          have AQ := Lib.hid (show AtClass (oneT c i) 0 s k from ⟨hk.lt, hk.lo, hk.hi⟩)
          clear hk
          go_wp2_with fail
          refine (slot_SlotsV (sS c i c.cl.length) rfl HP.out).mono ?_
          rintro e w9 ⟨rfl, rfl⟩
          go_wp2_with fail
          refine (slot_AddrV (addrOf c i s k) rfl HP.out AC.out).mono ?_
          rintro e w9 ⟨rfl, x⟩
          replace HP := Lib.hid (HP.out.ext x); replace HQ := Lib.hid (HQ.out.ext x); replace h1 := h1.trans x
          clear x
          go_wp2_with fail
          refine (slot_AddrV (c := oneT c i) (t := 0) (addrOf c i s k) rfl HQ.out AQ.out).mono ?_
          rintro e w9 ⟨rfl, x⟩
          replace HP := Lib.hid (HP.out.ext x); replace HQ := Lib.hid (HQ.out.ext x); replace h1 := h1.trans x
          clear x
          go_wp2_with fail
          refine (slot_PageV (pageOf c i s k) rfl HP.out AC.out).mono ?_
          rintro e w9 ⟨rfl, x⟩
          replace HP := Lib.hid (HP.out.ext x); replace HQ := Lib.hid (HQ.out.ext x); replace h1 := h1.trans x
          clear x
          go_wp2_with fail
          refine (slot_PageV (c := oneT c i) (t := 0) (pageOf c i s k) rfl HQ.out AQ.out).mono ?_
          rintro e w9 ⟨rfl, x⟩
          replace HP := Lib.hid (HP.out.ext x); replace HQ := Lib.hid (HQ.out.ext x); replace h1 := h1.trans x
          clear x
          go_wp2_with fail
          refine (slot_SizeV (nth c.cl k) rfl HP.out AC.out).mono ?_
          rintro e w9 ⟨rfl, x⟩
          replace HP := Lib.hid (HP.out.ext x); replace HQ := Lib.hid (HQ.out.ext x); replace h1 := h1.trans x
          clear x
          go_wp2_with fail
          refine (slot_SizeV (c := oneT c i) (t := 0) (nth c.cl k) rfl HQ.out AQ.out).mono ?_
          rintro e w9 ⟨rfl, x⟩
          replace HP := Lib.hid (HP.out.ext x); replace HQ := Lib.hid (HQ.out.ext x); replace h1 := h1.trans x
          clear x
          go_wp2_with fail
          go_roundw
          case rel => exact ⟨s + 1, by omega, by omega, by go_num, HP, HQ, Lib.hid h1⟩
          case measure => simp [intOf]; omega
        · have hse : s = sS c i c.cl.length := by omega
          subst hse
          go_wp2_with fail
          refine (slot_SlotsV (sS c i c.cl.length) rfl HP.out).mono ?_
          rintro e w9 ⟨rfl, rfl⟩
          go_wp2_with fail
          refine (law09_awake _).mono ?_
          rintro e w9 ⟨rfl, x⟩
          go_wp2_with fail
          go_ret
          exact ⟨rfl, h1.trans x⟩
    · have h2 : kcheck c = 2 := (kcheck_01 _).resolve_left h0
      have H2 := Lib.hid h2
      clear h0 h2
      go_enter Try.func7, Try.ntmps7
      go_wp2_with fail
      try clear b0 b1 b2 b3 b4 b5
      refine (law09_great c false HG.out (H.out.ext (hx.trans h1))).mono ?_
      rintro e w2 ⟨rfl, h2⟩
      replace h1 := h1.trans h2
      clear h2
      obtain ⟨b0, b1, b2, b3, b4, b5⟩ := box6 h1
      go_wp2_with fail
      refine (ref06_Check c 2 H2.out (H.out.ext (hx.trans h1))).mono ?_
      rintro e w3 ⟨rfl, h2⟩
      replace h1 := h1.trans h2
      clear h2
      obtain ⟨b0, b1, b2, b3, b4, b5⟩ := box6 h1
      go_wp2_with fail
      all_goals (try clear b0 b1 b2 b3 b4 b5)
      refine (law09_awake _).mono ?_
      rintro e w4 ⟨rfl, h2⟩
      replace h1 := h1.trans h2
      clear h2
      go_wp2_with fail
      go_ret
      exact ⟨rfl, hx.trans h1⟩
  · have HG := Lib.hid hg
    clear hg
    go_enter Try.func7, Try.ntmps7
    go_wp2_with fail
    refine (law09_great c true HG.out (H.out.ext (hx.trans h1))).mono ?_
    rintro e w5 ⟨rfl, h2⟩
    replace h1 := h1.trans h2
    clear h2
    obtain ⟨b0, b1, b2, b3, b4, b5⟩ := box6 h1
    go_wp2_with fail
    all_goals (try clear b0 b1 b2 b3 b4 b5)
    refine (law09_awake _).mono ?_
    rintro e w6 ⟨rfl, h2⟩
    replace h1 := h1.trans h2
    clear h2
    go_wp2_with fail
    go_ret
    exact ⟨rfl, hx.trans h1⟩

end Go.Proofs.Ytmjgmgaklgcdnaa
