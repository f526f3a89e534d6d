/-
  bits.Row's Count, Clear, Less, Copy.
-/
import Derived.Test.YtfhnjecnamgpkaaDoorBits2
import Derived.Deep.RegionHeld3
namespace Go.Proofs.YtfhnjecnamgpkaaDoor
open Go.RowKit

set_option maxHeartbeats 1000000 in
theorem row_Count_no {p : Option Addr} {w : World} (h : NoneAt w p true) : Calls Tryd.prog 21 #[.pointer p] w fun e w' => e = .returned (.int .i64 0) ∧ w = w' := by
  go_enter Tryd.func21, Tryd.ntmps21
  go_wp2_with fail
  refine (row_none true h).mono ?_
  rintro e w1000 ⟨rfl, rfl⟩
  go_wp2_with fail
  go_ret
  exact ⟨rfl, rfl⟩

set_option maxRecDepth 100000 in
set_option maxHeartbeats 1000000 in
theorem row_Count {b g : Nat} (bs : List Bool) (c : Nat) {w : World} (h : RowAt w b g bs) (hc : bcnt bs bs.length = c) : Calls Tryd.prog 21 #[.pointer (some ⟨b, 0, none⟩)] w fun e w' => e = .returned (.int .i64 c) ∧ w = w' := by
  have HC := Lib.hid hc; clear hc
  have h65 := h.most
  obtain ⟨a, cap, h0, hA, h1, h2, hg⟩ := h.ex
  have hword := h.word
  have HW := Lib.hid hword
  have HG := Lib.hid hg
  have HN := Lib.hid h.isNone
  have hwl : wlen bs.length ≤ 1024 := by unfold wlen; omega
  clear h hA hword hg
  unfold maxLen at h2
  go_enter Tryd.func21, Tryd.ntmps21
  go_wp2_with fail
  refine (row_none false HN.out).mono ?_
  rintro e w1000 ⟨rfl, rfl⟩
  go_wp2_with fail
  go_loop [3, 14] (fun n k => ∃ j : Nat, j ≤ wlen bs.length ∧ n = .int .i64 ((bcnt bs (64 * j) : Nat) : Int) ∧ k = .int .i64 j) (fun _ k => wlen bs.length - (intOf k).toNat)
  case atStart => exact ⟨0, Nat.zero_le _, rfl, rfl⟩
  case round =>
    obtain ⟨j, hj, rfl, rfl⟩ := hrel
    by_cases hlt : j < wlen bs.length
    · have hp : 0 < bs.length := by unfold wlen at hlt; omega
      have hw := HW.out hp j hlt
      obtain ⟨rfl, _⟩ := HG.out hp
      have hcn := bcnt_le bs (64 * j)
      have hpn := popc_le 64 (wd bs j)
      have HB := Lib.hid (bcnt_word bs j)
      have HL := Lib.hid (wd_lt bs j)
      generalize wd bs j = x at *
      obtain ⟨cb, hcb⟩ : ∃ cb, bcnt bs (64 * j) = cb := ⟨_, rfl⟩
      obtain ⟨cp, hcp⟩ : ∃ cp, popc 64 x = cp := ⟨_, rfl⟩
      have HCP := Lib.hid hcp
      rw [hcb, hcp] at HB
      rw [hcb] at hcn
      rw [hcp] at hpn
      rw [hcb]
      clear hcb hcp
      go_wp2_with fail
      refine (bits_OnesCount64 x HL.out).mono ?_
      rw [HCP.out]
      rintro e w1 ⟨rfl, rfl⟩
      go_wp2_with fail
      go_round
      case rel => exact ⟨j + 1, by omega, by rw [← HB.out]; go_num, by go_num⟩
      case measure => simp [intOf]; omega
    · obtain rfl : j = wlen bs.length := by omega
      rw [bcnt_all bs, HC.out]
      go_wp2_with fail
      go_ret
      exact ⟨rfl, rfl⟩

/-! ### Clear -/
def allFalse (bs : List Bool) : List Bool := List.replicate bs.length false
/-- What Clear leaves. -/
def ClearPost (b g : Nat) (bs : List Bool) (w : World) (e : Ending) (w' : World) : Prop := (∃ v, e = .returned v) ∧ RowAt w' b g (List.replicate bs.length false) ∧ Chg (tch g bs) w w'
set_option maxHeartbeats 1000000 in
theorem row_Clear_no {p : Option Addr} {w : World} (h : NoneAt w p true) : Calls Tryd.prog 25 #[.pointer p] w fun e w' => (∃ v, e = .returned v) ∧ w = w' := by
  go_enter Tryd.func25, Tryd.ntmps25
  go_wp2_with fail
  refine (row_none true h).mono ?_
  rintro e w1000 ⟨rfl, rfl⟩
  go_wp2_with fail
  go_end0
  exact ⟨⟨_, rfl⟩, rfl⟩

theorem Chg.setCells {P : Nat → Prop} {b : Nat} : ∀ (vs : List Value) (o : Nat) {a w : World}, Chg P a w → P b → Chg P a (w.setCells b o vs)
  | [], _, _, _, h, _ => h
  | v :: vs, o, _, _, h, hp => Chg.setCells vs (o + 1) (h.setCell (p := ⟨b, o, none⟩) (.inl hp) v) hp
theorem RowAt.zeroed {w : World} {b g : Nat} {bs : List Bool} (h : RowAt w b g bs) (hp : 0 < bs.length) : RowAt (w.setCells g 0 (List.replicate (wlen bs.length) (.int .u64 0))) b g (List.replicate bs.length false) := by
  have hgb := h.apart hp
  have hword := h.word hp
  obtain ⟨a, cap, h0, hA, h1, h2, h3⟩ := h.ex
  obtain ⟨rfl, hf⟩ := h3 hp
  have far : ∀ o u, w.cell? ⟨b, o, none⟩ = some u → (w.setCells g 0 (List.replicate (wlen bs.length) (.int .u64 0))).cell? ⟨b, o, none⟩ = some u := fun o u hc => by
    rw [World.cell?_setCells_out g _ 0 w ⟨b, o, none⟩ (fun e => absurd e.symm hgb)]; exact hc
  refine ⟨⟨some ⟨g, 0, none⟩, cap, by rw [List.length_replicate]; exact far _ _ h0, At.mk fun i hi => ?_, by rw [List.length_replicate]; exact h1, h2, fun _ => ⟨rfl, fun o => by rw [World.frozen?_setCells]; exact hf o⟩⟩, by rw [List.length_replicate]; exact far _ _ h.many, far _ _ h.made, by rw [List.length_replicate]; exact h.most⟩
  rw [wds_len, List.length_replicate] at hi
  have hin := World.cell?_setCells_in g (List.replicate (wlen bs.length) (.int .u64 0)) 0 w (fun j hj => by rw [List.length_replicate] at hj; rw [Nat.zero_add, hword j hj]; rfl) i (by simpa using hi)
  rw [hin, wds_zero _ _ hi]
  simp
set_option maxRecDepth 100000 in
set_option maxHeartbeats 1000000 in
theorem row_Clear {b g : Nat} (bs : List Bool) {w : World} (h : RowAt w b g bs) : Calls Tryd.prog 25 #[.pointer (some ⟨b, 0, none⟩)] w (ClearPost b g bs w) := by
  have H := Lib.hid h
  have hword := h.word
  obtain ⟨a, cap, h0, hA, h1, h2, hg⟩ := h.ex
  rcases Nat.eq_zero_or_pos bs.length with hz | hp
  · obtain rfl := List.length_eq_zero_iff.1 hz
    have hcl : ∀ ty, (Builtin.clear_ #[51] ty #[.slice a 0 cap]).run Tryd.prog w = .ok (.tuple #[]) w := fun ty => by
      cases a <;> simp [Builtin.clear_, run_underlying Tryd.underlying51]
    replace h0 : w.cell? ⟨b, 0, .none⟩ = some (.slice a 0 cap) := h0
    clear h hA hword hg
    go_enter Tryd.func25, Tryd.ntmps25
    go_wp2_with fail
    refine (row_none false H.out.isNone).mono ?_
    rintro e w1000 ⟨rfl, rfl⟩
    go_wp2_with fail
    go_end0
    exact ⟨⟨_, rfl⟩, H.out, Chg.refl _ _⟩
  · obtain ⟨rfl, hf⟩ := hg hp
    have hv : ∀ w, (zeroValue 55).run Tryd.prog w = .ok (.int .u64 0) w := fun w => by kernel_rfl
    have hcl : ∀ ty, (Builtin.clear_ #[51] ty #[.slice (some ⟨g, 0, none⟩) (wlen bs.length) cap]).run Tryd.prog w = .ok (.tuple #[]) (w.setCells g 0 (List.replicate (wlen bs.length) (.int .u64 0))) := fun ty =>
      Lib.run_clear_slice w _ 55 ty (.int .u64 0) Tryd.underlying51 hv rfl rfl g 0 (wlen bs.length) cap (wlen_pos hp) (fun j hj => by rw [Nat.zero_add, hword hp j hj]; rfl) (fun j _ => hf _)
    clear h hA hword hg hf hv
    go_enter Tryd.func25, Tryd.ntmps25
    go_wp2_with fail
    refine (row_none false H.out.isNone).mono ?_
    rintro e w1000 ⟨rfl, rfl⟩
    go_wp2_with fail
    go_end0
    exact ⟨⟨_, rfl⟩, H.out.zeroed hp, Chg.setCells _ _ (Chg.refl _ _) ⟨hp, rfl⟩⟩

/-! ### Copy -/
set_option maxHeartbeats 1000000 in
theorem row_Copy_no {p : Option Addr} {w : World} (h : NoneAt w p true) : Calls Tryd.prog 30 #[.pointer p] w fun e w' => e = .returned (.pointer none) ∧ w = w' := by
  go_enter Tryd.func30, Tryd.ntmps30
  go_wp2_with fail
  refine (row_none true h).mono ?_
  rintro e w1000 ⟨rfl, rfl⟩
  go_wp2_with fail
  go_ret
  exact ⟨rfl, rfl⟩
/-- A row of its own, of the same bits. -/
def CopyPost (bs : List Bool) (w : World) (e : Ending) (w' : World) : Prop := ∃ b g, e = .returned (.pointer (some ⟨b, 0, none⟩)) ∧ RowAt w' b g bs ∧ w.heap.size ≤ b ∧ (0 < bs.length → w.heap.size ≤ g) ∧ Ext w w'
theorem RowAt.newFrom {w W : World} {a : Option Addr} {cap n k : Nat} {bs : List Bool} {u : TypeId} (hn : NewInts .u64 w W a cap (wds bs)) (hl : bs.length ≤ 65536) (hk : bs.length = k) (hw : wlen bs.length = n) :
    ∃ g, RowAt (W.alloc (.cells #[.slice a n cap, .int .i64 k, .bool true] u)) W.heap.size g bs ∧ (0 < bs.length → w.heap.size ≤ g) := by
  subst hk hw
  have c := fun i => cell_newN W #[.slice a (wlen bs.length) cap, .int .i64 bs.length, .bool true] u i
  have hx : Ext W (W.alloc (.cells #[.slice a (wlen bs.length) cap, .int .i64 bs.length, .bool true] u)) := (Ext.refl W).alloc _
  have c1 := hn.cap1
  rw [wds_len] at c1
  rcases Nat.eq_zero_or_pos bs.length with hz | hp
  · exact ⟨0, ⟨⟨a, cap, c 0, hn.row.ext hx, c1, hn.cap2, fun h => absurd h (by omega)⟩, c 1, c 2, hl⟩, fun h => absurd h (by omega)⟩
  · obtain ⟨g, rfl, g1, g2, g3⟩ := hn.own (by rw [wds_len]; exact wlen_pos hp)
    exact ⟨g, ⟨⟨_, cap, c 0, hn.row.ext hx, c1, hn.cap2, fun _ => ⟨rfl, fun o => by rw [hx.frozen (p := ⟨g, o, none⟩) g2]; exact g3 o⟩⟩, c 1, c 2, hl⟩, fun _ => g1⟩

set_option maxHeartbeats 2000000 in
theorem row_Copy {b g : Nat} (bs : List Bool) {w : World} (h : RowAt w b g bs) : Calls Tryd.prog 30 #[.pointer (some ⟨b, 0, none⟩)] w (CopyPost bs w) := by
  obtain ⟨a, cap, h0, hA, h1, h2, _⟩ := h.ex
  have hm := h.many
  have hb : (wds bs).length * 8 ≤ 140737488355328 := by rw [wds_len]; have := h.most; unfold wlen; omega
  have HA := Lib.hid hA; have HB := Lib.hid hb; have HN := Lib.hid h.isNone
  have L := Lib.hid (wds_len bs)
  have HM := Lib.hid h.most
  have n0 := World.new_ne w _ h0
  clear h hA hb
  rw [← L.out] at h0
  go_enter Tryd.func30, Tryd.ntmps30
  go_wp2_with fail
  refine (row_none false HN.out).mono ?_
  rintro e w1000 ⟨rfl, rfl⟩
  go_wp2_with fail
  go_region_held3 (fun w' => w'.cell? ⟨b, 0, none⟩ = some (.slice a (wds bs).length cap) ∧ w'.cell? ⟨b, 1, none⟩ = some (.int .i64 bs.length))
    ((first | go_keep | (go_split_ands; exact ⟨hE.cell (by assumption), hE.cell (by assumption)⟩)))
    ((go_at_call 53; refine (clone_words (wds bs) ?_ HB.out).mono ?_; (first | exact HA.out | exact HA.out.ext ((Ext.refl _).drew) | exact HA.out.ext ((Ext.refl _).drewN _) | fail); rintro e w1 ⟨a1, c1, rfl, hn1, hE⟩))
  all_goals
    have hz : w.heap.size ≤ w1.heap.size := hE.size
    obtain ⟨g1, hr, hg⟩ := RowAt.newFrom (u := 58) hn1 HM.out rfl L.out.symm
    go_wp2_with fail
    go_ret
    exact ⟨_, g1, rfl, hr, hz, hg, (((Ext.refl w).drew).trans hE).alloc _⟩

/-! ### Less -/
def blessTo (rs bs : List Bool) (k : Nat) : List Bool := (List.range rs.length).map fun i => bnth rs i && !(decide (i < 64 * k) && bnth bs i)
theorem blessTo_len (rs bs : List Bool) (k : Nat) : (blessTo rs bs k).length = rs.length := by unfold blessTo; simp
theorem blessTo_nth (rs bs : List Bool) (k i : Nat) : bnth (blessTo rs bs k) i = (bnth rs i && !(decide (i < 64 * k) && bnth bs i)) := by
  by_cases h : i < rs.length
  · unfold blessTo bnth; simp [List.getD, h]
  · rw [bnth_out (by rw [blessTo_len]; omega), bnth_out (bs := rs) (by omega)]; rfl
theorem blessTo_zero (rs bs : List Bool) : blessTo rs bs 0 = rs := bext (blessTo_len _ _ _) fun i _ => by rw [blessTo_nth]; simp
theorem blessTo_all (rs bs : List Bool) : blessTo rs bs (wlen rs.length) = bless rs bs := bext (by rw [blessTo_len, bless_len]) fun i hi => by
  rw [blessTo_nth, bless_nth]
  rw [blessTo_len] at hi
  have : i < 64 * wlen rs.length := by unfold wlen; omega
  simp [this]
theorem blessTo_step (rs bs : List Bool) (k : Nat) : wds (blessTo rs bs (k + 1)) = (wds (blessTo rs bs k)).set k ((wd rs k &&& (18446744073709551615 - wd bs k) : Nat) : Int) := by
  apply List.ext_getElem
  · simp [wds_len, blessTo_len]
  · intro j h1 h2
    rw [List.getElem_set]
    by_cases e : k = j
    · subst e
      rw [if_pos rfl, wds_get]
      have hw := wd_bless rs bs k
      rw [show 18446744073709551616 - (wd bs k + 1) = 18446744073709551615 - wd bs k by omega] at hw
      have hw2 : wd (blessTo rs bs (k + 1)) k = wd (bless rs bs) k := wd_eq (wd_lt _ _) fun j hj => by
        rw [wd_bit _ _ _ hj, blessTo_nth, bless_nth, decide_eq_true (show 64 * k + j < 64 * (k + 1) by omega)]; simp
      rw [hw2, hw]
    · rw [if_neg e, wds_get, wds_get]
      have hw2 : wd (blessTo rs bs (k + 1)) j = wd (blessTo rs bs k) j := wd_eq (wd_lt _ _) fun i hi => by
        rw [wd_bit _ _ _ hi, blessTo_nth, blessTo_nth]
        have : decide (64 * j + i < 64 * (k + 1)) = decide (64 * j + i < 64 * k) := by rw [decide_eq_decide]; omega
        rw [this]
      rw [hw2]
theorem blessTo_word (rs bs : List Bool) (k : Nat) : wd (blessTo rs bs k) k = wd rs k :=
  wd_eq (wd_lt _ _) fun j hj => by rw [wd_bit _ _ _ hj, blessTo_nth, decide_eq_false (show ¬ 64 * k + j < 64 * k by omega)]; simp

theorem flip {P : Program} {g : Nat} {args : Array Value} {w : World} {v : Ending} (h : Calls P g args w fun e w' => e = v ∧ w = w') : Calls P g args w fun e w' => e = v ∧ w' = w :=
  h.mono fun _ _ ⟨a, b⟩ => ⟨a, b.symm⟩

set_option maxHeartbeats 1000000 in
theorem row_Less_no {p q : Option Addr} {w : World} (h : NoneAt w p true) : Calls Tryd.prog 14 #[.pointer p, .pointer q] w fun e w' => e = .returned (.int .i64 1) ∧ w = w' := by
  go_enter Tryd.func14, Tryd.ntmps14
  go_wp2_with fail
  refine (row_none true h).mono ?_
  rintro e w1000 ⟨rfl, rfl⟩
  go_wp2_with fail
  go_ret
  exact ⟨rfl, rfl⟩
set_option maxHeartbeats 1000000 in
theorem row_Less_arg {p q : Option Addr} {w : World} (h : NoneAt w p false) (h' : NoneAt w q true) : Calls Tryd.prog 14 #[.pointer p, .pointer q] w fun e w' => e = .returned (.int .i64 2) ∧ Ext w w' := by
  have H' := Lib.hid h'; clear h'
  go_enter Tryd.func14, Tryd.ntmps14
  go_wp2_with fail
  refine (row_none false h).mono ?_
  rintro e w1000 ⟨rfl, rfl⟩
  go_wp2_with fail
  go_quiet ((go_at_call 45; exact Calls.quiet_of_same (flip (row_none true H'.out))))
  go_wp2_with fail
  go_ret
  exact ⟨rfl, (Ext.refl w).drewN _⟩
set_option maxHeartbeats 1000000 in
theorem row_Less_len {b g b' g' : Nat} (rs bs : List Bool) {w : World} (h : RowAt w b g rs) (h' : RowAt w b' g' bs) (hl : rs.length ≠ bs.length) : Calls Tryd.prog 14 #[.pointer (some ⟨b, 0, none⟩), .pointer (some ⟨b', 0, none⟩)] w fun e w' => e = .returned (.int .i64 2) ∧ Ext w w' := by
  have H' := Lib.hid h'.isNone
  have m := h.many
  have m' := h'.many
  have hne : ((bs.length : Int) != (rs.length : Int)) = true := by simp; omega
  have H := Lib.hid h.isNone
  clear h h' hl
  go_enter Tryd.func14, Tryd.ntmps14
  go_wp2_with fail
  refine (row_none false H.out).mono ?_
  rintro e w1000 ⟨rfl, rfl⟩
  go_wp2_with fail
  go_quiet ((go_at_call 45; exact Calls.quiet_of_same (flip (row_none false H'.out))))
  go_wp2_with fail
  go_ret
  exact ⟨rfl, (Ext.refl w).drewN _⟩

/-- What Less leaves. -/
def LessPost (b g : Nat) (rs bs : List Bool) (w : World) (e : Ending) (w' : World) : Prop := e = .returned (.int .i64 0) ∧ RowAt w' b g (bless rs bs) ∧ Chg (tch g rs) w w'
set_option maxRecDepth 100000 in
set_option maxHeartbeats 4000000 in
theorem row_Less {b g b' g' : Nat} (rs bs : List Bool) {w : World} (h : RowAt w b g rs) (h' : RowAt w b' g' bs) (hl : rs.length = bs.length) (hap : 0 < rs.length → g ≠ b' ∧ g ≠ g') : Calls Tryd.prog 14 #[.pointer (some ⟨b, 0, none⟩), .pointer (some ⟨b', 0, none⟩)] w (LessPost b g rs bs w) := by
  have HH' := Lib.hid h'
  have HH := Lib.hid h
  have H' := Lib.hid h'.isNone
  have H := Lib.hid h.isNone
  have m := h.many
  have m' := h'.many
  obtain ⟨a', cap', o0, hA', o1, o2, hg'⟩ := h'.ex
  rw [← hl] at m' o0 o1
  have hne : ((rs.length : Int) != (rs.length : Int)) = false := by simp
  have h65 := h.most
  have hwl : wlen rs.length ≤ 1024 := by unfold wlen; omega
  have HG' := Lib.hid hg'
  have HL := Lib.hid hl
  have HAP := Lib.hid hap
  clear h h' hA' hl hg' hap
  unfold maxLen at o2
  go_enter Tryd.func14, Tryd.ntmps14
  go_wp2_with fail
  refine (row_none false H.out).mono ?_
  rintro e w1000 ⟨rfl, rfl⟩
  go_wp2_with fail
  go_quiet ((go_at_call 45; exact Calls.quiet_of_same (flip (row_none false H'.out))))
  go_wp2_with fail
  clear m m' o0
  go_loopw [29] (fun k wr => ∃ j : Nat, j ≤ wlen rs.length ∧ k = .int .i64 j ∧ RowAt wr b g (blessTo rs bs j) ∧ Chg (tch g rs) w wr) (fun k _ => wlen rs.length - (intOf k).toNat)
  case atStart => exact ⟨0, Nat.zero_le _, rfl, by rw [blessTo_zero]; exact HH.out.ext ((Ext.refl w).drewN _), (Chg.refl _ w).drewN _⟩
  case round =>
    obtain ⟨j, hj, rfl, hrow, hchg⟩ := hrel
    have HR := Lib.hid hrow
    have HC := Lib.hid hchg
    by_cases hlt : j < wlen rs.length
    · have hp : 0 < rs.length := by unfold wlen at hlt; omega
      obtain ⟨ap1, ap2⟩ := HAP.out hp
      obtain ⟨rfl, _⟩ := HG'.out (by have := HL.out; omega)
      have hw' := HC.out.cell (p := ⟨g', j, .none⟩) (fun e => ap2 e.2.symm) (HH'.out.word (by have := HL.out; omega) j (by have := HL.out; rw [← this]; exact hlt))
      have hw := HR.out.word (by rw [blessTo_len]; exact hp) j (by rw [blessTo_len]; exact hlt)
      rw [blessTo_word] at hw
      obtain ⟨ra, rc, r0, rA, r1, r2, rg⟩ := HR.out.ex
      obtain ⟨rfl, rf⟩ := rg (by rw [blessTo_len]; exact hp)
      have rfj := rf j
      rw [blessTo_len] at r0 r1
      have HS := Lib.hid (blessTo_step rs bs j)
      have HN := Lib.hid (u64_andNot_nat (wd rs j) (wd bs j) (wd_lt _ _) (wd_lt _ _))
      generalize wd rs j = x at *
      generalize wd bs j = y at *
      clear hrow hchg rA rg rf
      go_wp2_with fail
      rw [HN.out]
      go_roundw
      case rel => exact ⟨j + 1, by omega, by go_num, HR.out.setWord (by rw [blessTo_len]; exact hp) (by rw [blessTo_len, blessTo_len]) (by rw [blessTo_len]; exact hlt) HS.out, HC.out.setCell (.inl ⟨hp, rfl⟩) _⟩
      case measure => simp [intOf]; omega
    · obtain rfl : j = wlen rs.length := by omega
      go_wp2_with fail
      go_ret
      exact ⟨rfl, by have := HR.out; rw [blessTo_all] at this; exact this, HC.out⟩

end Go.Proofs.YtfhnjecnamgpkaaDoor
