/-
  commonagelaw09: great.
-/
import Derived.Test.YteopbobhphghhaaLaw09a
import Derived.Test.YteopbobhphghhaaOwn
import Derived.Deep.RegionHeld
import Derived.RegionTactic
import Derived.Deep.RegionWith
namespace Go.Proofs.Yteopbobhphghhaa
open Go.RowKit

/-- More than a statement looks at. -/
def bigC (c : Conf) : Bool := !(decide (c.cl.length ≤ 50 ∧ c.ts.length ≤ 50)) || decide (6000 < (ktotal c).1)

set_option maxHeartbeats 2000000 in
theorem law09_great {ca ta : Option Addr} {cc tc : Nat} (c : Conf) (b : Bool) {w : World} (hb : bigC c = b) (h : CfgAt w ca ta cc tc c) :
    Calls Try.prog 22 #[.agg #[.slice ca c.cl.length cc, .int .i64 c.page, .slice ta c.ts.length tc, .int .i64 c.wk, .int .i64 c.gr, .int .i64 c.gens]] w fun e w' => e = .returned (.bool b) ∧ Ext w w' := by
  have h1 := Ext.refl (w.alloc (.cells #[.slice ca c.cl.length cc, .int .i64 c.page, .slice ta c.ts.length tc, .int .i64 c.wk, .int .i64 c.gr, .int .i64 c.gens] 25))
  have hx := (Ext.refl w).alloc (.cells #[.slice ca c.cl.length cc, .int .i64 c.page, .slice ta c.ts.length tc, .int .i64 c.wk, .int .i64 c.gr, .int .i64 c.gens] 25)
  obtain ⟨⟨p, q⟩, hpq⟩ : ∃ pq, ktotal c = pq := ⟨_, rfl⟩
  have PQ := Lib.hid hpq
  have H := Lib.hid h; clear h
  unfold bigC at hb
  rw [hpq] at hb
  by_cases hs : c.cl.length ≤ 50 ∧ c.ts.length ≤ 50
  · have HS := Lib.hid (show decide (c.cl.length ≤ 50 ∧ c.ts.length ≤ 50) = true by simpa using hs)
    have hp : decide (6000 < p) = b := by rw [← hb, decide_eq_true hs]; rfl
    clear hs hb hpq
    go_enter Try.func22, Try.ntmps22
    go_wp2_with fail
    try clear b0 b1 b2 b3 b4 b5
    refine (ref06_Total c p q PQ.out (H.out.ext (hx.trans h1))).mono ?_
    rintro e w1 ⟨rfl, h2⟩
    replace h1 := h1.trans h2
    clear h2
    obtain ⟨b0, b1, b2, b3, b4, b5⟩ := box6 h1
    go_wp2_with fail
    refine (ref06_Small c true HS.out (H.out.ext (hx.trans h1))).mono ?_
    rintro e w2 ⟨rfl, h2⟩
    replace h1 := h1.trans h2
    clear h2
    obtain ⟨b0, b1, b2, b3, b4, b5⟩ := box6 h1
    go_wp2_with fail
    all_goals (try clear b0 b1 b2 b3 b4 b5)
    go_ret
    exact ⟨rfl, hx.trans h1⟩
  · have HS := Lib.hid (show decide (c.cl.length ≤ 50 ∧ c.ts.length ≤ 50) = false by simpa using hs)
    have hp : b = true := by rw [← hb, decide_eq_false hs]; rfl
    subst hp
    clear hs hb hpq
    go_enter Try.func22, Try.ntmps22
    go_wp2_with fail
    try clear b0 b1 b2 b3 b4 b5
    refine (ref06_Total c p q PQ.out (H.out.ext (hx.trans h1))).mono ?_
    rintro e w3 ⟨rfl, h2⟩
    replace h1 := h1.trans h2
    clear h2
    obtain ⟨b0, b1, b2, b3, b4, b5⟩ := box6 h1
    go_wp2_with fail
    refine (ref06_Small c false HS.out (H.out.ext (hx.trans h1))).mono ?_
    rintro e w4 ⟨rfl, h2⟩
    replace h1 := h1.trans h2
    clear h2
    obtain ⟨b0, b1, b2, b3, b4, b5⟩ := box6 h1
    go_wp2_with fail
    all_goals (try clear b0 b1 b2 b3 b4 b5)
    go_ret
    exact ⟨rfl, hx.trans h1⟩

theorem slot_SlotsV {b gp : Nat} {c : Conf} {t : Nat} (n : Int) {w : World} (hn : sS c t c.cl.length = n) (h : PlanAt w b gp c t) : Calls Try.prog 30 #[.pointer (some ⟨b, 0, none⟩)] w fun e w' => e = .returned (.int .i64 n) ∧ w = w' := by
  subst hn; exact slot_Slots h
theorem slot_PagesV {b gp : Nat} {c : Conf} {t : Nat} (n : Int) {w : World} (hn : sG c t c.cl.length = n) (h : PlanAt w b gp c t) : Calls Try.prog 31 #[.pointer (some ⟨b, 0, none⟩)] w fun e w' => e = .returned (.int .i64 n) ∧ w = w' := by
  subst hn; exact slot_Pages h
theorem slot_WordsV {b gp : Nat} {c : Conf} {t : Nat} (n : Int) {w : World} (hn : sG c t c.cl.length * c.page = n) (h : PlanAt w b gp c t) : Calls Try.prog 32 #[.pointer (some ⟨b, 0, none⟩)] w fun e w' => e = .returned (.int .i64 n) ∧ Ext w w' := by
  subst hn; exact slot_Words h
theorem slot_AddrV {b gp k : Nat} {c : Conf} {t : Nat} {s : Int} (a : Int) {w : World} (ha : addrOf c t s k = a) (h : PlanAt w b gp c t) (hk : AtClass c t s k) :
    Calls Try.prog 57 #[.pointer (some ⟨b, 0, none⟩), .int .i64 s] w fun e w' => e = .returned (.tuple #[.int .i64 a, .int .i64 0]) ∧ Ext w w' := by
  subst ha; exact slot_Addr h hk
theorem slot_PageV {b gp k : Nat} {c : Conf} {t : Nat} {s : Int} (a : Int) {w : World} (ha : pageOf c t s k = a) (h : PlanAt w b gp c t) (hk : AtClass c t s k) :
    Calls Try.prog 59 #[.pointer (some ⟨b, 0, none⟩), .int .i64 s] w fun e w' => e = .returned (.tuple #[.int .i64 a, .int .i64 0]) ∧ Ext w w' := by
  subst ha; exact slot_Page h hk
theorem slot_SizeV {b gp k : Nat} {c : Conf} {t : Nat} {s : Int} (a : Int) {w : World} (ha : nth c.cl k = a) (h : PlanAt w b gp c t) (hk : AtClass c t s k) :
    Calls Try.prog 67 #[.pointer (some ⟨b, 0, none⟩), .int .i64 s] w fun e w' => e = .returned (.tuple #[.int .i64 a, .int .i64 0]) ∧ Ext w w' := by
  subst ha; exact slot_Size h hk
theorem slot_NewN {ca ta : Option Addr} {cc tc n : Nat} {cl : List Int} {page wk gr gens : Int} (c : Conf) (i : Int) {w : World} (hk0 : kcheck c = 0) (h : CfgAt w ca ta cc tc c) (j : Nat) (hj : i = j) (hi : j < c.ts.length)
    (hn : c.ts.length = n) (h1 : c.cl = cl) (h2 : c.page = page) (h3 : c.wk = wk) (h4 : c.gr = gr) (h5 : c.gens = gens) :
    Calls Try.prog 24 #[.agg #[.slice ca cl.length cc, .int .i64 page, .slice ta n tc, .int .i64 wk, .int .i64 gr, .int .i64 gens], .int .i64 i] w (PlanNew c j w) := by
  subst hn h1 h2 h3 h4 h5 hj; exact slot_New c j hk0 hi h


end Go.Proofs.Yteopbobhphghhaa
