/-
  slot: the function that addrs hands back: its contract as an iterator.
-/
import Derived.Test.YteopbobhphghhaaSlotD
import Derived.Test.YteopbobhphghhaaNextU
import Derived.RangeFuncNested
import Derived.RangeFuncBound
import Derived.RangeFuncCalls
import Derived.RangeFuncLeaves
import Derived.Shelf.RegionOpen
import Derived.OwnWalkIn
import Derived.TacticsInMore
import Derived.LoopNIn
import Derived.LoopIn
import Derived.Stop.RegionWithIn
namespace Go.Proofs.Yteopbobhphghhaa
open Go.RowKit Go.Shelf
attribute [local go_sem] Oper.semAt_some

/-- What a round is handed: a slot, and its address. -/
abbrev PItem := Int × Int
def encP (x : PItem) : Array Value := #[.int .i64 x.1, .int .i64 x.2]
def pitem (c : Conf) (t : Nat) (p : Int) (k j : Nat) : PItem := (firstP c t p k + j, p * c.page + j * nth c.cl k)
/-- What a round leaves: all below, and all cells. -/
def KC (n₀ : Nat) (A B : World) : Prop := Below n₀ A B ∧ ∀ (k : Nat) (o : Obj), A.heap[k]? = some o → o.isCells = true → B.heap[k]? = some o
theorem KC.trans {n₀ : Nat} {A B C : World} (h : KC n₀ A B) (k : KC n₀ B C) : KC n₀ A C := ⟨h.1.trans k.1, fun i o h1 h2 => k.2 i o (h.2 i o h1 h2) h2⟩
theorem KC.refl (n₀ : Nat) (A : World) : KC n₀ A A := ⟨Below.refl _ _, fun _ _ h _ => h⟩

theorem manyP_bd {c : Conf} {t k : Nat} {p : Int} (ho : KOk c) (ht : t < c.ts.length) (hk : AtPage c t p k) : 1 ≤ manyP c t p k ∧ manyP c t p k ≤ 32 := by
  have bd := ho.bounds ht hk.lt
  have u1 := bd.per1; have u2 := bd.per32
  obtain ⟨a0, a1⟩ := ahead_bd ho ht hk
  unfold manyP
  split <;> omega
theorem firstP_bd {c : Conf} {t k : Nat} {p : Int} (ho : KOk c) (ht : t < c.ts.length) (hk : AtPage c t p k) : 0 ≤ firstP c t p k ∧ firstP c t p k ≤ 20000 := by
  have bd := ho.bounds ht hk.lt
  have u3 := bd.s2048
  have m8 := ho.cl.most
  have kl := hk.lt
  have gl := ho.sS_le ht (Nat.le_of_lt kl)
  obtain ⟨a0, a1⟩ := ahead_bd ho ht hk
  unfold firstP
  omega

set_option maxRecDepth 100000 in
set_option maxHeartbeats 16000000 in
theorem addrs1_in (n : Nat) (hn : 1 ≤ n) (l n₀ Bp Bg b gp k N : Nat) {c : Conf} {t : Nat} {p : Int} (hk : AtPage c t p k) (hN : manyP c t p k = N) (hBp : Bp < n₀) (hBg : Bg < n₀) (hb : b < n₀) (J Jx : List PItem → World → Prop) (hJe : ∀ pre V V', J pre V → Ext V V' → J pre V')
    (hY : ∀ pre x W, J pre W → pre.length < N → YieldAt Fence.wide (n - 1) Try.prog l (encP x) W fun e W' =>
      (e = .returned (.bool true) ∧ J (pre ++ [x]) W' ∧ KC n₀ W W') ∨ (e = .returned (.bool false) ∧ Jx (pre ++ [x]) W'))
    (W : World) (_hn0 : n₀ ≤ W.heap.size) (cp : W.cell? ⟨Bp, 0, none⟩ = some (.pointer (some ⟨b, 0, none⟩))) (cg : W.cell? ⟨Bg, 0, none⟩ = some (.int .i64 p)) (hP : PlanAt W b gp c t) (h0 : J [] W) :
    CallsIn Fence.wide n Try.prog 83 #[.func (.yield l) #[] #[], .pointer (some ⟨Bp, 0, none⟩), .pointer (some ⟨Bg, 0, none⟩)] W fun e W' => (∃ v, e = .returned v) ∧
      ((∃ ys, ys = upto (pitem c t p k) N ∧ J ys W') ∨ (∃ pre, (∃ j, j ≤ N ∧ pre = upto (pitem c t p k) j) ∧ Jx pre W')) := by
  have kl := hk.lt
  have m8 := hP.ok.cl.most
  have bd := hP.ok.bounds hP.ti kl
  have u1 := bd.c2; have u2 := bd.c64; have u3 := bd.p64; have u4 := bd.cpage
  obtain ⟨F0, F1⟩ := firstP_bd hP.ok hP.ti hk
  obtain ⟨N0, N1⟩ := manyP_bd hP.ok hP.ti hk
  have gl := hP.ok.sG_le hP.ti (Nat.le_of_lt kl)
  have p0 : 0 ≤ p := by have := hk.lo; omega
  have p1 : p ≤ 20480 := by have := hk.hi; have e : sG c t (k + 1) = sG c t k + pagesOf c t k := rfl; have := bd.pg2048; omega
  obtain ⟨Q, hQ⟩ : ∃ Q, p * c.page = Q := ⟨_, rfl⟩
  have QB := mul_bd (a := p) (b := c.page) (A := 20480) (B := 64) p0 p1 (by omega) u3
  rw [hQ] at QB
  obtain ⟨Q0, Q1⟩ := QB
  have HP := Lib.hid hP; have HK := Lib.hid hk; have HN := Lib.hid hN; have CP := Lib.hid cp; have CG := Lib.hid cg; have HY := Lib.hid hY; have HQ := Lib.hid hQ
  have JE := Lib.hid hJe
  have H0 := Lib.hid h0
  rw [hN] at N0 N1
  clear hk hN hY hP bd gl h0 hJe
  refine callsIn_of_wp Try.func83 rfl trivial ?_ rfl
  simp only [Try.ntmps83, List.size_toArray, List.length_cons, List.length_nil, Nat.reduceAdd, Nat.reduceSub, Array.replicate_succ, Array.replicate_zero, List.push_toArray, List.append_toArray, List.nil_append, List.cons_append]
  gi_wp2_with (first
    | (refine ⟨trivial, ?_⟩; gi_at_call 60; refine (callsIn_wide.2 (slot_In HP.out HK.out)).mono ?_; rw [HN.out]; rintro e W1 ⟨rfl, x1⟩; have cp1 := x1.cell CP.out; have cg1 := x1.cell CG.out)
    | (refine ⟨trivial, ?_⟩; gi_at_call 82; refine (callsIn_wide.2 (slot_in (HP.out.ext x1) HK.out)).mono ?_; unfold pv5 partOf; rintro e W2 ⟨rfl, x2⟩))
  obtain ⟨W3, hW3⟩ : ∃ V, W2.alloc (.cells #[.int .i64 (nth c.cl k), .int .i64 (sS c t k), .int .i64 (slotsOf c t k), .int .i64 (sG c t k), .int .i64 (perOf c k)] 106) = V := ⟨_, rfl⟩
  obtain ⟨xb, hxb⟩ : ∃ xb, W2.heap.size = xb := ⟨_, rfl⟩
  have XA : Ext W W3 := by rw [← hW3]; exact (x1.trans x2).alloc _
  have XH : W3.heap[xb]? = some (.cells #[.int .i64 (nth c.cl k), .int .i64 (sS c t k), .int .i64 (slotsOf c t k), .int .i64 (sG c t k), .int .i64 (perOf c k)] 106) := by rw [← hW3, ← hxb]; exact World.alloc_heap_new W2 _
  rw [hW3, hxb]
  have J0 := JE.out _ _ _ H0.out XA
  have cp3 := XA.cell CP.out; have cg3 := XA.cell CG.out; have pg3 := XA.cell HP.out.page
  have CP3 := Lib.hid cp3; have CG3 := Lib.hid cg3; have PG3 := Lib.hid pg3
  clear cp1 cg1 x1 x2 hW3 hxb XA cp cg cp3 cg3 pg3
  gi_loopw [24] (fun kv wr => ∃ m : Nat, m ≤ N ∧ kv = .int .i64 m ∧ J (upto (pitem c t p k) m) wr ∧ Below n₀ W3 wr ∧ wr.heap[xb]? = some (.cells #[.int .i64 (nth c.cl k), .int .i64 (sS c t k), .int .i64 (slotsOf c t k), .int .i64 (sG c t k), .int .i64 (perOf c k)] 106)) (fun kv _ => N - (intOf kv).toNat)
  case atStart => exact ⟨0, Nat.zero_le _, rfl, J0, Below.refl _ _, XH⟩
  case round =>
    clear J0 XH
    obtain ⟨m, hm, rfl, hJ, hB, hX⟩ := hrel
    have cp := (hB.cell (p := ⟨Bp, 0, none⟩) hBp).trans CP3.out
    have cg := (hB.cell (p := ⟨Bg, 0, none⟩) hBg).trans CG3.out
    have pg := (hB.cell (p := ⟨b, 3, none⟩) hb).trans PG3.out
    have cx : wr.cell? ⟨xb, 0, none⟩ = some (.int .i64 (nth c.cl k)) := by
      have := World.news_of_block hX 0 _ rfl
      rw [Addr.add_lit] at this; exact this
    have HJ := Lib.hid hJ; have HX := Lib.hid hX
    by_cases hlt : m < N
    · obtain ⟨R, hR0⟩ : ∃ R, (m : Int) * nth c.cl k = R := ⟨_, rfl⟩
      have RB := mul_bd (a := (m : Int)) (b := nth c.cl k) (A := 32) (B := 64) (by omega) (by omega) (by omega) u2
      rw [hR0] at RB
      obtain ⟨R0, R1⟩ := RB
      have hy0 := HY.out _ (pitem c t p k m) wr.drew (JE.out _ _ _ hJ (Ext.refl _).drew) (by rw [upto_length]; exact hlt)
      have ef : encP (pitem c t p k m) = #[.int .i64 (firstP c t p k + m), .int .i64 (Q + R)] := by
        unfold encP pitem; rw [HQ.out, hR0]
      rw [ef] at hy0
      have hq := HQ.out
      generalize firstP c t p k = F at *
      generalize nth c.cl k = sz at *
      generalize c.page = pgw at *
      have v1 : IntKind.i64.wrap (F + (m : Int)) = F + (m : Int) := IntWalk.i64_in _ (by omega)
      have v2 : IntKind.i64.wrap Q = Q := IntWalk.i64_in _ (by omega)
      have v3 : IntKind.i64.wrap R = R := IntWalk.i64_in _ (by omega)
      have v4 : IntKind.i64.wrap (Q + R) = Q + R := IntWalk.i64_in _ (by omega)
      obtain ⟨fn, tmps, assign, body, hy, hR⟩ := hy0
      clear ef hJ hX
      gi_wp2
      have hR2 := hR.mono (R' := fun e W' => ∃ bb : Bool, e = .returned (.bool bb) ∧ Hid ((bb = true ∧ J (upto (pitem c t p k) m ++ [pitem c t p k m]) W' ∧ KC n₀ wr.drew W') ∨ (bb = false ∧ Jx (upto (pitem c t p k) m ++ [pitem c t p k m]) W'))) (fun e W' h => by
        rcases h with ⟨rfl, h1, h2⟩ | ⟨rfl, h1⟩
        · exact ⟨true, rfl, .inl ⟨rfl, h1, h2⟩⟩
        · exact ⟨false, rfl, .inr ⟨rfl, h1⟩⟩)
      clear hR
      gi_region_with (refine hR2.mono ?_; rintro e W4 ⟨bb, rfl, hbb⟩)
      all_goals
        clear hR2 hy
        rcases hbb.out with ⟨rfl, hJ3, hk3⟩ | ⟨rfl, hJx3⟩
        · have HJ3 := Lib.hid hJ3; have HK3 := Lib.hid hk3
          clear hbb hJ3 hk3
          gi_wp2
          go_roundw
          case rel => exact ⟨m + 1, by omega, by go_num, by rw [upto_succ]; exact HJ3.out, hB.trans (((Below.refl _ _).drew).trans HK3.out.1), HK3.out.2 _ _ HX.out rfl⟩
          case measure => simp [intOf]; omega
        · have HX3 := Lib.hid hJx3
          clear hbb hJx3
          gi_wp2
          refine bodyPost_ret (results_none rfl _ _ _) rfl ?_
          exact ⟨⟨_, rfl⟩, .inr ⟨_, ⟨m + 1, by omega, (upto_succ _ _).symm⟩, HX3.out⟩⟩
    · obtain rfl : m = N := by omega
      gi_wp2
      go_end0
      exact ⟨⟨_, rfl⟩, .inl ⟨_, rfl, HJ.out⟩⟩

end Go.Proofs.Yteopbobhphghhaa
