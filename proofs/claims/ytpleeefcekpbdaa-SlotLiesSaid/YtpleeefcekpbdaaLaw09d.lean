/-
  commonagelaw09: the walk of SlotLies.
-/
import Derived.Test.YtpleeefcekpbdaaLaw09g
import Derived.Test.YtpleeefcekpbdaaSlotG
namespace Go.Proofs.Ytpleeefcekpbdaa
open Go.RowKit

theorem slot_InV {b gp k : Nat} {c : Conf} {t : Nat} {p : Int} (x m : Int) {w : World} (hx : firstP c t p k = x) (hm : manyP c t p k = m) (h : PlanAt w b gp c t) (hk : AtPage c t p k) :
    Calls Try.prog 41 #[.pointer (some ⟨b, 0, none⟩), .int .i64 p] w fun e w' => e = .returned (.tuple #[.int .i64 x, .int .i64 m, .int .i64 0]) ∧ Ext w w' := by
  subst hx hm; exact slot_In h hk

/-- What has been passed ends ahead of every slot to come. -/
structure EndOk (c : Conf) (t : Nat) (s x : Int) : Prop where
  x0 : 0 ≤ x
  xW : x ≤ sG c t c.cl.length * c.page
  to : ∀ s' k, AtClass c t s' k → s ≤ s' → x ≤ addrOf c t s' k
theorem EndOk.next {c : Conf} (ho : KOk c) {t k : Nat} (ht : t < c.ts.length) {s : Int} (h : AtClass c t s k) : EndOk c t (s + 1) (addrOf c t s k + nth c.cl k) := by
  have w := slots_within ho ht h
  have := (ho.bounds ht h.lt).c2
  exact ⟨by omega, w.2, fun s' k' h' hs => slots_apart ho ht h h' (by omega)⟩
theorem EndOk.start {c : Conf} (ho : KOk c) {t : Nat} (ht : t < c.ts.length) : EndOk c t 0 0 :=
  ⟨Int.le_refl _, Int.mul_nonneg (by have := (ho.sG_le ht (Nat.le_refl _)).1; omega) (by have := (ho.bounds ht (k := 0) ho.cl.pos); have := this.c2; have := this; have h2 := (ho.bounds ht (k := 0) ho.cl.pos).cpage; omega), fun s k h _ => (slots_within ho ht h).1⟩

/-- An address asked, whatever it is. -/
theorem law09_At {b gp : Nat} {c : Conf} {t : Nat} {a f : Int} {w : World} (h : PlanAt w b gp c t) (hf : Found c t a f) :
    ∃ r q, (Calls Try.prog 35 #[.pointer (some ⟨b, 0, none⟩), .int .i64 a] w fun e w' => e = .returned (.tuple #[.int .i64 r, .int .i64 q]) ∧ Ext w w') ∧ ((q = 0 ∧ Found c t (a + 1) (f + 1)) ∨ (q = 7 ∧ Found c t (a + 1) f)) := by
  by_cases hr : 0 ≤ a ∧ a < sG c t c.cl.length * c.page
  · have pg := h.pg2
    obtain ⟨k, hk⟩ := atPage_find (c := c) (t := t) (s := a / c.page) (Int.ediv_nonneg hr.1 (by omega)) (by rw [Int.ediv_lt_iff_lt_mul (by omega)]; exact hr.2)
    have m1 := (page_slots h.ok h.ti hk).1
    have hN : manyP c t (a / c.page) k = ((manyP c t (a / c.page) k).toNat : Nat) := by omega
    rcases addr_cases h.ok h.ti rfl hk hN with ⟨s, hs, he, hat⟩ | ⟨hn, hat⟩
    · exact ⟨s, 0, slot_At h hr.1 hr.2 rfl hk hN hat, .inl ⟨rfl, hf.hit h.ok h.ti hs he⟩⟩
    · exact ⟨0, 7, slot_At h hr.1 hr.2 rfl hk hN hat, .inr ⟨rfl, hf.miss hn⟩⟩
  · refine ⟨0, 7, slot_At_no h (by omega), .inr ⟨rfl, hf.miss fun s k hs e => ?_⟩⟩
    have := slots_within h.ok h.ti hs
    have := (h.ok.bounds h.ti hs.lt).c2
    omega

set_option maxRecDepth 100000 in
set_option maxHeartbeats 16000000 in
theorem law09_SlotLies {ca ta : Option Addr} {cc tc : Nat} (c : Conf) (tn : Int) (w : World) (htn : 0 ≤ tn ∧ tn ≤ 255) (h : CfgAt w ca ta cc tc c) :
    Calls Try.prog 9 #[.agg #[.slice ca c.cl.length cc, .int .i64 c.page, .slice ta c.ts.length tc, .int .i64 c.wk, .int .i64 c.gr, .int .i64 c.gens], .int .u8 tn] w fun e w' => e = .returned (.bool true) ∧ Ext w w' := by
  have h1 := Ext.refl (w.alloc (.cells #[.slice ca c.cl.length cc, .int .i64 c.page, .slice ta c.ts.length tc, .int .i64 c.wk, .int .i64 c.gr, .int .i64 c.gens] 25))
  have hx := (Ext.refl w).alloc (.cells #[.slice ca c.cl.length cc, .int .i64 c.page, .slice ta c.ts.length tc, .int .i64 c.wk, .int .i64 c.gr, .int .i64 c.gens] 25)
  have tm := h.tm
  have cm := h.cm
  unfold maxLen at tm cm
  obtain ⟨t0, t255⟩ := htn
  have H := Lib.hid h; clear h
  cases hg : bigC c
  · have HG := Lib.hid hg
    clear hg
    by_cases h0 : kcheck c = 0
    · have ho := kcheck_ok h0
      have H0 := Lib.hid h0
      have HO := Lib.hid ho
      obtain ⟨i, hmod, hi⟩ := mod_nat (tn := tn) ho.head.2.2.1
      have t1 := ho.head.2.2.1
      have t8 := ho.head.2.2.2.1
      have c8 := ho.cl.most
      have sb0 := (ho.sS_le hi (Nat.le_refl _)).1
      have sb := (ho.sS_le hi (Nat.le_refl _)).2
      have gb0 := (ho.sG_le hi (Nat.le_refl _)).1
      have gb := (ho.sG_le hi (Nat.le_refl _)).2
      have bd := ho.bounds hi (k := 0) ho.cl.pos
      have pg1 : 2 ≤ c.page := by have := bd.c2; have := bd.cpage; omega
      have pg2 := bd.p64
      have wb := mul_bd (a := sG c i c.cl.length) (b := c.page) (A := 16384) (B := 64) (by omega) (by omega) (by omega) pg2
      clear h0 ho bd
      obtain ⟨S, hS⟩ : ∃ S, sS c i c.cl.length = S := ⟨_, rfl⟩
      obtain ⟨G, hG⟩ : ∃ G, sG c i c.cl.length = G := ⟨_, rfl⟩
      obtain ⟨WD, hWD⟩ : ∃ x, sG c i c.cl.length * c.page = x := ⟨_, rfl⟩
      have ES := Lib.hid hS; have EG := Lib.hid hG; have EW := Lib.hid hWD
      rw [hWD] at wb
      rw [hS] at sb0 sb
      rw [hG] at gb0 gb
      obtain ⟨wb0, wb1⟩ := wb
      clear hS hG hWD
      go_enter Try.func9, Try.ntmps9
      go_wp2_with fail
      try clear b0 b1 b2 b3 b4 b5
      refine (law09_great c false HG.out (H.out.ext (hx.trans h1))).mono ?_
      rintro e w1 ⟨rfl, h2⟩
      replace h1 := h1.trans h2
      clear h2
      obtain ⟨b0, b1, b2, b3, b4, b5⟩ := box6 h1
      go_wp2_with fail
      try clear b0 b1 b2 b3 b4 b5
      refine (ref06_Check c 0 H0.out (H.out.ext (hx.trans h1))).mono ?_
      rintro e w2 ⟨rfl, h2⟩
      replace h1 := h1.trans h2
      clear h2
      obtain ⟨b0, b1, b2, b3, b4, b5⟩ := box6 h1
      go_wp2_with fail
      try clear b0 b1 b2 b3 b4 b5
      obtain ⟨b0, b1, b2, b3, b4, b5⟩ := box6 h1
      have h1d := h1.drew
      have n0 : ¬ c.ts.length = 0 := by omega
      have nz : ¬ (c.ts.length : Int) = 0 := by omega
      have hmt : tn.tmod c.ts.length = i := by rw [Int.tmod_eq_emod_of_nonneg t0]; exact hmod
      have hwi : IntKind.i64.wrap (i : Int) = i := IntWalk.i64_in _ (by omega)
      have hwt : IntKind.i64.wrap tn = tn := IntWalk.i64_in _ (by omega)
      go_region_held3 (fun w' => w'.cell? ⟨w.heap.size, 0, none⟩ = some (.slice ca c.cl.length cc) ∧ w'.cell? ⟨w.heap.size, 1, none⟩ = some (.int .i64 c.page) ∧ w'.cell? ⟨w.heap.size, 2, none⟩ = some (.slice ta c.ts.length tc) ∧ w'.cell? ⟨w.heap.size, 3, none⟩ = some (.int .i64 c.wk) ∧ w'.cell? ⟨w.heap.size, 4, none⟩ = some (.int .i64 c.gr) ∧ w'.cell? ⟨w.heap.size, 5, none⟩ = some (.int .i64 c.gens))
        ((first | with_reducible exact ⟨hE.cell b0, hE.cell b1, hE.cell b2, hE.cell b3, hE.cell b4, hE.cell b5⟩ | go_keep))
        ((go_at_call 27; refine (slot_New c i H0.out hi (H.out.ext (hx.trans h1d))).mono ?_; rintro e w3 ⟨b, gp, rfl, hp, x⟩; have HP := Lib.hid hp; have hX := h1d.trans x; have hE := (Ext.refl _).drew.trans x; clear hp x))
      clear h1 h1d hE b0 b1 b2 b3 b4 b5
      have h1 := hX
      clear hX
      go_wp2_with fail
      go_loopw [7, 9] (fun en n wr => ∃ s x : Int, 0 ≤ s ∧ s ≤ S ∧ n = .int .i64 s ∧ en = .int .i64 x ∧ 0 ≤ x ∧ x ≤ WD ∧ Hid (EndOk c i s x) ∧ Hid (PlanAt wr b gp c i) ∧ Ext (w.alloc (.cells #[.slice ca c.cl.length cc, .int .i64 c.page, .slice ta c.ts.length tc, .int .i64 c.wk, .int .i64 c.gr, .int .i64 c.gens] 25)) wr) (fun _ n _ => (S - intOf n).toNat)
      case atStart => exact ⟨0, 0, Int.le_refl _, by omega, rfl, rfl, Int.le_refl _, by omega, Lib.hid (EndOk.start HO.out hi), HP, h1⟩
      case round =>
        clear h1 HP
        obtain ⟨s, x, s0, s1, rfl, rfl, x0, xW, EK, HP, h1⟩ := hrel
        by_cases hlt : s < S
        · obtain ⟨k, hk⟩ := atClass_find (c := c) (t := i) s0 (by rw [ES.out]; exact hlt)
          have AC := Lib.hid hk
          obtain ⟨d, m, q⟩ := hk.inPage HO.out hi
          have bd := HO.out.bounds hi hk.lt
          have n2 := bd.c2; have n64 := bd.c64
          have AP := Lib.hid (q.page hk.lt)
          have dv := q.divs HO.out hi hk.lt
          have fi := q.first
          have sw := slots_within HO.out hi hk
          have m0 := q.m0
          have en := EK.out.to s k hk (Int.le_refl _)
          have EN := Lib.hid (EndOk.next HO.out hi hk)
          rw [EW.out] at sw
          have hpg := q.pg
          have hN : manyP c i (sG c i k + d) k = ((manyP c i (sG c i k + d) k).toNat : Nat) := by omega
          have IA := Lib.hid (q.isAt hN)
          have HN := Lib.hid hN
          clear bd q hk hN EK
          obtain ⟨a, ha⟩ : ∃ a, addrOf c i s k = a := ⟨_, rfl⟩
          obtain ⟨p, hp⟩ : ∃ p, sG c i k + d = p := ⟨_, rfl⟩
          rw [ha] at dv sw en EN IA
          rw [hp] at AP dv fi hpg IA HN
          obtain ⟨f, hf⟩ : ∃ f, firstP c i p k = f := ⟨_, rfl⟩
          obtain ⟨M, hM⟩ : ∃ M, manyP c i p k = M := ⟨_, rfl⟩
          obtain ⟨N, hN⟩ : ∃ N, nth c.cl k = N := ⟨_, rfl⟩
          rw [hf, hM] at fi
          rw [hN] at n2 n64 dv sw EN
          have HA := Lib.hid ha; have HF := Lib.hid hf; have HM := Lib.hid hM; have HNN := Lib.hid hN; have HPG := Lib.hid hpg
          have HDV := Lib.hid dv
          obtain ⟨sw0, sw1⟩ := sw
          obtain ⟨fi0, fi1⟩ := fi
          clear ha hp hf hM hN dv hpg
          have M1 : M ≤ 32 := by
            rw [← HM.out]; unfold manyP; have := (HO.out.bounds hi AC.out.lt).per32; split <;> omega
          go_wp2_with fail
          refine (slot_SlotsV S ES.out HP.out).mono ?_
          rintro e w9 ⟨rfl, rfl⟩
          go_wp2_with fail
          refine (slot_AddrV a HA.out HP.out AC.out).mono ?_
          rintro e w9 ⟨rfl, x⟩
          replace HP := Lib.hid (HP.out.ext x); replace h1 := h1.trans x
          clear x
          go_wp2_with fail
          refine (slot_SizeV N HNN.out HP.out AC.out).mono ?_
          rintro e w9 ⟨rfl, x⟩
          replace HP := Lib.hid (HP.out.ext x); replace h1 := h1.trans x
          clear x
          go_wp2_with fail
          refine (slot_At HP.out sw0 (by rw [EW.out]; omega) HDV.out.1 AP.out HN.out IA.out).mono ?_
          rintro e w9 ⟨rfl, x⟩
          replace HP := Lib.hid (HP.out.ext x); replace h1 := h1.trans x
          clear x
          go_wp2_with fail
          refine (slot_PageV p HPG.out HP.out AC.out).mono ?_
          rintro e w9 ⟨rfl, x⟩
          replace HP := Lib.hid (HP.out.ext x); replace h1 := h1.trans x
          clear x
          go_wp2_with fail
          refine (slot_InV f M HF.out HM.out HP.out AP.out).mono ?_
          rintro e w9 ⟨rfl, x⟩
          replace HP := Lib.hid (HP.out.ext x); replace h1 := h1.trans x
          clear x
          obtain ⟨b0, b1, b2, b3, b4, b5⟩ := box6 h1
          have q1 : IntKind.i64.wrap (a.tdiv c.page) = p := (IntWalk.i64_quo a c.page (by omega)).trans HDV.out.1
          have q2 : IntKind.i64.wrap ((a + N - 1).tdiv c.page) = p := (IntWalk.i64_quo (a + N - 1) c.page (by omega)).trans HDV.out.2
          have pz : ¬ c.page = 0 := by omega
          go_wp2_with fail
          go_roundw
          case rel => exact ⟨s + 1, a + N, by omega, by omega, by go_num, by go_num, by omega, sw1, EN, HP, h1⟩
          case measure => simp [intOf]; omega
        · have hse : s = S := by omega
          subst hse
          clear EK
          go_wp2_with fail
          refine (slot_SlotsV s ES.out HP.out).mono ?_
          rintro e w9 ⟨rfl, rfl⟩
          go_wp2_with fail
          go_loopw [8, 21] (fun fv av wr => ∃ f a : Int, -1 ≤ a ∧ a ≤ WD + 1 ∧ 0 ≤ f ∧ f ≤ s ∧ av = .int .i64 a ∧ fv = .int .i64 f ∧ Hid (Found c i a f) ∧ Hid (PlanAt wr b gp c i) ∧ Ext (w.alloc (.cells #[.slice ca c.cl.length cc, .int .i64 c.page, .slice ta c.ts.length tc, .int .i64 c.wk, .int .i64 c.gr, .int .i64 c.gens] 25)) wr) (fun _ av _ => (WD + 1 - intOf av).toNat)
          case atStart => exact ⟨0, -1, by omega, by omega, by omega, by omega, rfl, rfl, Lib.hid (Found.start HO.out hi), HP, h1⟩
          case round =>
            clear h1 HP
            obtain ⟨f, a, a0, a1, f0, f1, rfl, rfl, FO, HP, h1⟩ := hrel
            by_cases hle : a ≤ WD
            · go_wp2_with fail
              refine (slot_WordsV WD EW.out HP.out).mono ?_
              rintro e w9 ⟨rfl, x⟩
              replace HP := Lib.hid (HP.out.ext x); replace h1 := h1.trans x
              clear x
              go_wp2_with fail
              obtain ⟨r, q, hc, hq⟩ := law09_At HP.out FO.out
              refine hc.mono ?_
              clear hc
              rintro e w9 ⟨rfl, x⟩
              replace HP := Lib.hid (HP.out.ext x); replace h1 := h1.trans x
              clear x
              rcases hq with ⟨rfl, hq⟩ | ⟨rfl, hq⟩
              · have HQ := Lib.hid hq
                have f2 := hq.fS
                rw [ES.out] at f2
                clear hq FO
                go_wp2_with fail
                go_roundw
                case rel => exact ⟨f + 1, a + 1, by omega, by omega, by omega, by omega, by go_num, by go_num, HQ, HP, h1⟩
                case measure => simp [intOf]; omega
              · have HQ := Lib.hid hq
                clear hq FO
                go_wp2_with fail
                go_roundw
                case rel => exact ⟨f, a + 1, by omega, by omega, by omega, by omega, by go_num, rfl, HQ, HP, h1⟩
                case measure => simp [intOf]; omega
            · have hfs : f = s := by
                have := FO.out.all HO.out hi (by rw [EW.out]; omega)
                rw [this]; exact ES.out
              clear FO
              subst hfs
              go_wp2_with fail
              refine (slot_WordsV WD EW.out HP.out).mono ?_
              rintro e w9 ⟨rfl, x⟩
              replace HP := Lib.hid (HP.out.ext x); replace h1 := h1.trans x
              clear x
              go_wp2_with fail
              go_loopw [24, 25] (fun al pv wr => ∃ y p : Int, 0 ≤ p ∧ p ≤ G ∧ 0 ≤ y ∧ y ≤ f ∧ pv = .int .i64 p ∧ al = .int .i64 y ∧ Hid (PgStart c i p y) ∧ Hid (PlanAt wr b gp c i) ∧ Ext (w.alloc (.cells #[.slice ca c.cl.length cc, .int .i64 c.page, .slice ta c.ts.length tc, .int .i64 c.wk, .int .i64 c.gr, .int .i64 c.gens] 25)) wr) (fun _ pv _ => (G - intOf pv).toNat)
              case atStart => exact ⟨0, 0, by omega, by omega, by omega, by omega, rfl, rfl, Lib.hid (pgStart_at HO.out hi 0 (Nat.zero_le _)), HP, h1⟩
              case round =>
                clear h1 HP
                obtain ⟨y, p, p0, p1, y0, y1, rfl, rfl, PS, HP, h1⟩ := hrel
                by_cases hlt : p < G
                · obtain ⟨k, hk, hy⟩ := PS.out.resolve_right (by rw [EG.out]; omega)
                  have AP := Lib.hid hk
                  have ps := page_slots HO.out hi hk
                  have PN := Lib.hid (pgStart_next HO.out hi hk)
                  have sm := sS_mono HO.out hi (a := k + 1) (b := c.cl.length) hk.lt (Nat.le_refl _)
                  have hh := ps.2.2.hi
                  rw [ES.out] at sm
                  clear PS
                  obtain ⟨M, hM⟩ : ∃ M, manyP c i p k = M := ⟨_, rfl⟩
                  rw [hM] at ps PN hh
                  rw [← hy] at ps PN hh
                  have HF := Lib.hid hy.symm; have HM := Lib.hid hM
                  obtain ⟨m1, c1, c2⟩ := ps
                  have C1 := Lib.hid c1; have C2 := Lib.hid c2
                  have yM : y + M ≤ f := by omega
                  clear hk hy hM c1 c2 sm hh
                  go_wp2_with fail
                  refine (slot_PagesV G EG.out HP.out).mono ?_
                  rintro e w9 ⟨rfl, rfl⟩
                  go_wp2_with fail
                  refine (slot_InV y M HF.out HM.out HP.out AP.out).mono ?_
                  rintro e w9 ⟨rfl, x⟩
                  replace HP := Lib.hid (HP.out.ext x); replace h1 := h1.trans x
                  clear x
                  go_wp2_with fail
                  refine (slot_Class HP.out C1.out).mono ?_
                  rintro e w9 ⟨rfl, x⟩
                  replace HP := Lib.hid (HP.out.ext x); replace h1 := h1.trans x
                  clear x
                  go_wp2_with fail
                  refine (slot_Class HP.out C2.out).mono ?_
                  rintro e w9 ⟨rfl, x⟩
                  replace HP := Lib.hid (HP.out.ext x); replace h1 := h1.trans x
                  clear x
                  go_wp2_with fail
                  go_roundw
                  case rel => exact ⟨y + M, p + 1, by omega, by omega, by omega, by omega, by go_num, by go_num, PN, HP, h1⟩
                  case measure => simp [intOf]; omega
                · have hpe : p = G := by omega
                  subst hpe
                  have hye : y = f := by
                    rcases PS.out with ⟨k, hk, hy⟩ | ⟨_, hy⟩
                    · have := hk.hi; have := sG_mono HO.out hi (a := k + 1) (b := c.cl.length) hk.lt (Nat.le_refl _)
                      rw [EG.out] at this; omega
                    · rw [hy]; exact ES.out
                  clear PS
                  subst hye
                  go_wp2_with fail
                  refine (slot_PagesV p EG.out HP.out).mono ?_
                  rintro e w9 ⟨rfl, rfl⟩
                  go_wp2_with fail
                  have z3 : (wr.alloc (.cells #[.slice none 0 0, .int .i64 0, .int .i64 0, .int .i64 0] 84)).cell? ⟨wr.heap.size, 3, none⟩ = some (.int .i64 0) := cell_newN _ _ _ 3
                  obtain ⟨W1, hW1⟩ : ∃ W1, wr.alloc (.cells #[.slice none 0 0, .int .i64 0, .int .i64 0, .int .i64 0] 84) = W1 := ⟨_, rfl⟩
                  have x1 : Ext wr W1 := by rw [← hW1]; exact (Ext.refl _).alloc _
                  rw [hW1] at z3 ⊢
                  replace HP := Lib.hid (HP.out.ext x1); replace h1 := h1.trans x1
                  have Z := Lib.hid z3
                  clear x1 hW1 z3
                  generalize wr.heap.size = z at *
                  refine (slot_Addr_nil 0).mono ?_
                  rintro e w9 ⟨rfl, x⟩
                  replace HP := Lib.hid (HP.out.ext x); replace h1 := h1.trans x; replace Z := Lib.hid (x.cell Z.out)
                  clear x
                  go_wp2_with fail
                  refine (slot_At_zero 0 Z.out).mono ?_
                  rintro e w9 ⟨rfl, x⟩
                  replace HP := Lib.hid (HP.out.ext x); replace h1 := h1.trans x; replace Z := Lib.hid (x.cell Z.out)
                  clear x
                  go_wp2_with fail
                  refine (slot_In_nil 0).mono ?_
                  rintro e w9 ⟨rfl, rfl⟩
                  go_wp2_with fail
                  refine (slot_Of_zero 0 Z.out).mono ?_
                  rintro e w9 ⟨rfl, rfl⟩
                  go_wp2_with fail
                  refine (slot_WordsV WD EW.out HP.out).mono ?_
                  rintro e w9 ⟨rfl, x⟩
                  replace HP := Lib.hid (HP.out.ext x); replace h1 := h1.trans x; replace Z := Lib.hid (x.cell Z.out)
                  clear x
                  go_wp2_with fail
                  refine (slot_SlotsV y ES.out HP.out).mono ?_
                  rintro e w9 ⟨rfl, rfl⟩
                  go_wp2_with fail
                  refine (slot_SlotsV y ES.out HP.out).mono ?_
                  rintro e w9 ⟨rfl, rfl⟩
                  go_wp2_with fail
                  refine slot_Slots_nil.mono ?_
                  rintro e w9 ⟨rfl, rfl⟩
                  go_wp2_with fail
                  refine (slot_Pages_zero Z.out).mono ?_
                  rintro e w9 ⟨rfl, rfl⟩
                  go_wp2_with fail
                  refine slot_Words_nil.mono ?_
                  rintro e w9 ⟨rfl, rfl⟩
                  go_wp2_with fail
                  refine (law09_awake _).mono ?_
                  rintro e w9 ⟨rfl, x⟩
                  replace h1 := h1.trans x
                  go_wp2_with fail
                  go_ret
                  exact ⟨rfl, hx.trans h1⟩
    · have h2 : kcheck c = 2 := (kcheck_01 _).resolve_left h0
      have H2 := Lib.hid h2
      clear h0 h2
      go_enter Try.func9, Try.ntmps9
      go_wp2_with fail
      try clear b0 b1 b2 b3 b4 b5
      refine (law09_great c false HG.out (H.out.ext (hx.trans h1))).mono ?_
      rintro e w3 ⟨rfl, h2⟩
      replace h1 := h1.trans h2
      clear h2
      obtain ⟨b0, b1, b2, b3, b4, b5⟩ := box6 h1
      go_wp2_with fail
      refine (ref06_Check c 2 H2.out (H.out.ext (hx.trans h1))).mono ?_
      rintro e w4 ⟨rfl, h2⟩
      replace h1 := h1.trans h2
      clear h2
      obtain ⟨b0, b1, b2, b3, b4, b5⟩ := box6 h1
      go_wp2_with fail
      all_goals (try clear b0 b1 b2 b3 b4 b5)
      refine (law09_awake _).mono ?_
      rintro e w5 ⟨rfl, h2⟩
      replace h1 := h1.trans h2
      clear h2
      go_wp2_with fail
      go_ret
      exact ⟨rfl, hx.trans h1⟩
  · have HG := Lib.hid hg
    clear hg
    go_enter Try.func9, Try.ntmps9
    go_wp2_with fail
    refine (law09_great c true HG.out (H.out.ext (hx.trans h1))).mono ?_
    rintro e w6 ⟨rfl, h2⟩
    replace h1 := h1.trans h2
    clear h2
    obtain ⟨b0, b1, b2, b3, b4, b5⟩ := box6 h1
    go_wp2_with fail
    all_goals (try clear b0 b1 b2 b3 b4 b5)
    refine (law09_awake _).mono ?_
    rintro e w7 ⟨rfl, h2⟩
    replace h1 := h1.trans h2
    clear h2
    go_wp2_with fail
    go_ret
    exact ⟨rfl, hx.trans h1⟩

end Go.Proofs.Ytpleeefcekpbdaa
