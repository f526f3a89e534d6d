/-
  pins: Copy.
-/
import Derived.Test.YtfhnjecnamgpkaaDoorPins6
namespace Go.Proofs.YtfhnjecnamgpkaaDoor
open Go.RowKit

set_option maxHeartbeats 1000000 in
theorem clone_counts {a : Option Addr} {cap : Nat} (xs : List Int) {w : World} (h : At .u8 w a xs) (hb : xs.length ≤ 65536) :
    Calls Tryd.prog 59 #[.slice a xs.length cap] w (ClonedInts .u8 xs w) := by
  obtain ⟨i0, hi0, hz0, hz1, hz2⟩ := info_parts info_w8
  have he : ∀ (a : Option Addr) n c (w : World), (binOp .eql 76 (.slice a n c) (.slice none 0 0)).run Tryd.prog w = .ok (.bool a.isNone) w := fun a n c w => Lib.run_eql_slice_nil w _ _ a n c 0 0 Tryd.underlying76
  cases a with
  | none =>
    have hl : xs.length = 0 := by
      rcases Nat.eq_zero_or_pos xs.length with c | c
      · exact c
      · obtain ⟨b, o, e, _⟩ := h.pos c; cases e
    obtain rfl := List.length_eq_zero_iff.1 hl
    clear h
    go_enter Tryd.func59, Tryd.ntmps59
    go_wp2_with fail
    go_ret
    exact ⟨none, 0, rfl, ⟨fun i hi => absurd hi (Nat.not_lt_zero _), Nat.le_refl _, Nat.zero_le _, fun hi => absurd hi (Nat.lt_irrefl 0)⟩, Ext.refl w⟩
  | some ad =>
    have hnews : ∀ j u, (ncs .u8 xs)[j]? = some u → w.cell? (ad.add j) = some u := by
      intro j u hj
      have hl := (List.getElem?_eq_some_iff.1 hj).1
      rw [ncs_len] at hl
      obtain ⟨b, o, e, hc⟩ := h.pos (by omega)
      cases e
      exact ncs_news hc j u hj
    have HN := Lib.hid hnews; clear hnews h
    have hn63 : xs.length ≤ maxLen := by unfold maxLen; omega
    have HM := Lib.hid hn63; clear hn63
    go_enter Tryd.func59, Tryd.ntmps59
    go_wp2_with (at_builtin; refine wpList_append_own _ rfl (.tmp 5) (.tmp 6) 76 rfl w.heap.size 5 i0 (.int .u8 0) 1 1 Tryd.underlying76 hi0 hz0 hz1 hz2 rfl (by decide) (.slice (some ⟨w.heap.size, 0, none⟩) 0 0) 0 [] rfl (World.ownsRow_made _ #[] 0 (Nat.le_refl _) (by decide) rfl) ad xs.length cap (ncs .u8 xs) rfl (by rw [ncs_len, Nat.mul_one]) (fun j u hj => cell_alloc (HN.out j u hj) _) (ncs_one _ _) (by rw [Nat.zero_add]; exact HM.out) (by rw [Nat.zero_add]; omega) (by simp) ?_; intro v' w1 hown hgrow hnil)
    go_ret
    rw [Nat.zero_add, List.nil_append] at hown
    have hx : Ext w w1 := Ext.of (((Ext.refl w).alloc (.cells #[] 5)).below.grown hgrow (by simp) (fun k e => by cases e; exact Nat.le_refl _))
    obtain ⟨a', c', rfl, hn⟩ := newInts_of hown
    exact ⟨a', c', rfl, hn, hx⟩

theorem PinAt.newFrom {W0 W : World} {a : Option Addr} {cap n rb rg : Nat} {ms : List Int} {u : TypeId} (hn : NewInts .u8 W0 W a cap ms) (hr : RowAt W rb rg (pbs ms)) (hk : ms.length = n) (sm : ∀ x ∈ ms, 0 ≤ x ∧ x ≤ 255)
    (hs : ∀ g, a = some ⟨g, 0, none⟩ → 0 < ms.length → g ≠ rb ∧ g ≠ rg) :
    ∃ g, PinAt (W.alloc (.cells #[.pointer (some ⟨rb, 0, none⟩), .slice a n cap] u)) W.heap.size rb rg g ms ∧ (0 < ms.length → W0.heap.size ≤ g) := by
  subst hk
  have c := fun i => cell_newN W #[.pointer (some ⟨rb, 0, none⟩), .slice a ms.length cap] u i
  have hx : Ext W (W.alloc (.cells #[.pointer (some ⟨rb, 0, none⟩), .slice a ms.length cap] u)) := (Ext.refl W).alloc _
  have hl := hr.lt
  rcases Nat.eq_zero_or_pos ms.length with hz | hp
  · exact ⟨0, ⟨c 0, ⟨a, cap, c 1, hn.row.ext hx, hn.cap1, hn.cap2, fun h => absurd h (by omega)⟩, hr.ext hx, sm, fun h => absurd h (by omega), by omega⟩, fun h => absurd h (by omega)⟩
  · obtain ⟨g, rfl, g1, g2, g3⟩ := hn.own hp
    have hg := hr.glt (by rw [pbs_len]; exact hp)
    obtain ⟨s1, s2⟩ := hs g rfl hp
    exact ⟨g, ⟨c 0, ⟨_, cap, c 1, hn.row.ext hx, hn.cap1, hn.cap2, fun _ => ⟨rfl, fun o => by rw [hx.frozen (p := ⟨g, o, none⟩) g2]; exact g3 o⟩⟩, hr.ext hx, sm, fun _ => ⟨by omega, s1, s2, by omega⟩, by omega⟩, fun _ => g1⟩

/-- Pins of their own, of the same counts. -/
def PinCopied (ms : List Int) (w : World) (e : Ending) (w' : World) : Prop :=
  ∃ b rb rg g, e = .returned (.pointer (some ⟨b, 0, none⟩)) ∧ PinAt w' b rb rg g ms ∧ w.heap.size ≤ b ∧ w.heap.size ≤ rb ∧ (0 < ms.length → w.heap.size ≤ rg ∧ w.heap.size ≤ g) ∧ Ext w w'

theorem PinCopied.mk {w W0 W : World} {a : Option Addr} {cap n rb rg : Nat} {ms : List Int} {u : TypeId} (hn : NewInts .u8 W0 W a cap ms) (hr : RowAt W rb rg (pbs ms)) (hk : ms.length = n) (sm : ∀ x ∈ ms, 0 ≤ x ∧ x ≤ 255)
    (hs : ∀ g, a = some ⟨g, 0, none⟩ → 0 < ms.length → g ≠ rb ∧ g ≠ rg) (x0 : Ext w W0) (x1 : Ext w W) (hb : w.heap.size ≤ rb) (hg : 0 < ms.length → w.heap.size ≤ rg) :
    PinCopied ms w (.returned (.pointer (some ⟨W.heap.size, 0, none⟩))) (W.alloc (.cells #[.pointer (some ⟨rb, 0, none⟩), .slice a n cap] u)) := by
  obtain ⟨g, h1, h2⟩ := PinAt.newFrom (u := u) hn hr hk sm hs
  exact ⟨_, rb, rg, g, rfl, h1, x1.size, hb, fun hp => ⟨hg hp, Nat.le_trans x0.size (h2 hp)⟩, x1.alloc _⟩

set_option maxHeartbeats 4000000 in
theorem pins_Copy {b rb rg g : Nat} (ms : List Int) {w : World} (h : PinAt w b rb rg g ms) : Calls Tryd.prog 40 #[.pointer (some ⟨b, 0, none⟩)] w (PinCopied ms w) := by
  obtain ⟨a, cap, h1, hA, _⟩ := h.ex
  have h0 := h.head
  have HN := Lib.hid h.isNone; have HA := Lib.hid hA; have HR := Lib.hid h.row; have SM := Lib.hid h.small
  have hm := h.most
  have n0 := World.new_ne w _ h0
  have hd : Ext w w.drew := (Ext.refl w).drew
  have PL := Lib.hid (pbs_len ms)
  clear h hA
  go_enter Tryd.func40, Tryd.ntmps40
  go_wp2_with fail
  refine (pins_none false HN.out).mono ?_
  rintro e w1000 ⟨rfl, rfl⟩
  go_wp2_with fail
  go_region_held3 (fun w' => w'.cell? ⟨b, 0, none⟩ = some (.pointer (some ⟨rb, 0, none⟩)) ∧ w'.cell? ⟨b, 1, none⟩ = some (.slice a ms.length cap))
    ((first | go_keep | (go_split_ands; exact ⟨hE.cell (by assumption), hE.cell (by assumption)⟩)))
    (first | (go_at_call 59; refine (clone_counts ms (HA.out.ext ?_) hm).mono ?_; assumption; rintro e w1 ⟨a1, c1, rfl, hn1, hE⟩; have hE1 := hE; have hX1 : Ext w w1 := Ext.trans (by assumption) hE) | (go_at_call 30; refine (row_Copy (pbs ms) (HR.out.ext ?_)).mono ?_; assumption; rintro e w2 ⟨b2, g2, rfl, hr2, hb2, hg2, hE⟩; have hE2 := hE; have hX2 : Ext w w2 := Ext.trans (by assumption) hE))
  all_goals
    go_wp2_with fail
    go_ret
    first
      | exact PinCopied.mk (hn1.ext hE2) hr2 rfl SM.out (fun g e hp => by
          obtain ⟨g', e', _, k2, _⟩ := hn1.own hp
          rw [e'] at e; cases e
          have := hg2 (by rw [PL.out]; exact hp)
          omega) (by first | assumption | exact hd) hX2 (Nat.le_trans hX1.size hb2) (fun hp => Nat.le_trans hX1.size (hg2 (by rw [PL.out]; exact hp)))
      | exact PinCopied.mk hn1 (hr2.ext hE1) rfl SM.out (fun g e hp => by
          obtain ⟨g', e', k1, _, _⟩ := hn1.own hp
          rw [e'] at e; cases e
          have := hr2.lt; have := hr2.glt (by rw [PL.out]; exact hp)
          omega) hX2 hX1 (Nat.le_trans hd.size hb2) (fun hp => Nat.le_trans hd.size (hg2 (by rw [PL.out]; exact hp)))

end Go.Proofs.YtfhnjecnamgpkaaDoor
