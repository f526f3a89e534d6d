/-
  field.Unpack.
-/
import Derived.Test.YtjdagameeopadaaDoorField3
namespace Go.Proofs.YtjdagameeopadaaDoor
open Go.RowKit

theorem info_u64 : (Tryd.prog.info? 24).map (fun i => (i.zero, i.size, i.bytes)) = some (some (.int .u64 0), 1, 8) := by kernel_rfl

/-- What field.Unpack's road knows of a world: all old things are as they were; the word; the values so far, in a row of its own. -/
structure UnpW (w W : World) (bw bo : Nat) (u : Int) (l : List Int) : Prop where
  ext : Ext w W
  word : W.cell? ⟨bw, 0, none⟩ = some (.int .u64 u)
  out : ∃ sv, W.cell? ⟨bo, 0, none⟩ = some sv ∧ W.ownsRow (bo + 1) 24 1 sv l.length (ncs .u64 l)
  fz : W.frozen? ⟨bo, 0, none⟩ = false
  above : w.heap.size ≤ bo
  lt : bw < bo

set_option maxHeartbeats 2000000 in
theorem field_Unpack1 {w W : World} {bw bo : Nat} {u : Int} (l : List Int) {i f m : Int} (p q : Int) (hp : UnpW w W bw bo u l) (h0 : 0 ≤ u) (h1 : u < 18446744073709551616) (hpq : gget u f m = (p, q)) (hl : l.length ≤ 1000) :
    Calls Tryd.prog 23 #[.int .i64 i, .int .i64 f, .int .i64 m, .pointer (some ⟨bw, 0, none⟩), .pointer (some ⟨bo, 0, none⟩)] W fun e W' => e = .returned (.int .i64 q) ∧ UnpW w W' bw bo u (l ++ [p]) := by
  obtain ⟨i0, hi0, hz0, hz1, hz2⟩ := info_parts info_u64
  obtain ⟨sv, hc, hown⟩ := hp.out
  have c1 := hp.word
  have HP := Lib.hid hp; have HQ := Lib.hid hpq; have HU := Lib.hid h1; have HO := Lib.hid hown; have HC := Lib.hid hc
  clear hp hpq h1 hown hc
  have hm63 : l.length + 1 ≤ maxLen := by unfold maxLen; omega
  have HM := Lib.hid hm63; clear hm63
  go_enter Tryd.func23, Tryd.ntmps23
  go_wp2_with fail
  refine (field_Get p q h0 HU.out HQ.out).mono ?_
  rintro e w1 ⟨rfl, hx⟩
  have c2 := hx.cell HC.out
  have f2 : w1.frozen? ⟨bo, 0, none⟩ = false := hx.frozenAt HC.out HP.out.fz
  have hown1 := own_ext HO.out hx
  have hsz : bo < w1.heap.size := cell_lt c2
  have HO1 := Lib.hid hown1; clear hown1
  have HNE := Lib.hid (show some bo ≠ sv.ownBlock from fun e => by have := (HO1.out.lt _ e.symm).1; omega)
  clear c1
  go_wp2_with (at_builtin; refine wpList_append_lies _ rfl (.tmp 18) (.tmp 20) 50 rfl (bo + 1) 24 i0 (.int .u64 0) 1 8 Tryd.underlying50 hi0 hz0 hz1 hz2 rfl (by decide) sv l.length (ncs .u64 l) rfl (HO1.out.alloc _) ⟨w1.heap.size, 0, none⟩ 1 1 [.int .u64 p] rfl rfl (news1 _ _ _) (one1 rfl) (by omega) HM.out (by omega) (by simp; omega) (w1.heap.size + 1) (by simp) ?_; intro g cap w2 hown2 hgrow hat hlt; have c3 := grow_cell hgrow ((Ext.refl w1).alloc _) c2 HNE.out; have f3 := grow_frozen hgrow ((Ext.refl w1).alloc _) c2 f2 HNE.out; have HW := Lib.hid hown2; have HG := Lib.hid hgrow; clear hown2 hgrow hat hlt)
  go_ret
  have hx2 : Ext w w2 := ((HP.out.ext.trans hx).alloc _).grown HG.out fun k e => by have := (HO1.out.lt _ e).1; have := HP.out.above; omega
  have ho2 : w2.ownsRow (bo + 1) 24 1 (.slice (some ⟨g, 0, none⟩) (l.length + 1) cap) (l ++ [p]).length (ncs .u64 (l ++ [p])) := by
    have := HW.out
    rw [ncs_snoc] at this
    simpa using this
  refine ⟨rfl, ⟨hx2.setCell HP.out.above _, ?_, ⟨_, World.cell?_setCell_same w2 _ _ c3, own_setCell ho2 (Nat.lt_succ_self bo) _⟩, by simpa using f3, HP.out.above, HP.out.lt⟩⟩
  rw [cell_far _ _ _ _ (by have := HP.out.lt; show bo ≠ bw; omega), HG.out.cell_far _ (by have := HP.out.lt; simp; omega) (fun e => by have h1 : bo + 1 ≤ bw := (HO1.out.lt bw e.symm).1; have := HP.out.lt; omega)]
  exact cell_alloc (hx.cell HP.out.word) _

theorem unpackR_bad1 {xs : List Int} {u : Int} (h : ¬ Wok xs) : unpackR xs u = ([], 2) := by unfold unpackR; rw [if_neg fun c => h (wokB_iff.1 c)]
theorem unpackR_five {xs : List Int} {u : Int} (h : Wok xs) (hf : fitsB u (fr xs xs.length) = false) : unpackR xs u = ([], 5) := by unfold unpackR; rw [if_pos (wokB_iff.2 h), if_neg (by rw [hf]; decide)]
theorem unpackR_yes {xs : List Int} {u : Int} (h : Wok xs) (hf : fitsB u (fr xs xs.length) = true) : unpackR xs u = (unp xs u xs.length, 0) := by unfold unpackR; rw [if_pos (wokB_iff.2 h), if_pos hf]

/-- A row of words is handed back, beside a number. -/
def Words2 (l : List Int) (q : Int) (w : World) (e : Ending) (w' : World) : Prop := ∃ a cap, e = .returned (.tuple #[.slice a l.length cap, .int .i64 q]) ∧ NewInts .u64 w w' a cap l ∧ Ext w w'
theorem Words2.nil {q : Int} {w w' : World} (hx : Ext w w') : Words2 [] q w (.returned (.tuple #[.slice none 0 0, .int .i64 q])) w' :=
  ⟨none, 0, rfl, ⟨At.nil, Nat.le_refl _, Nat.zero_le _, fun h => absurd h (Nat.lt_irrefl 0)⟩, hx⟩

set_option maxHeartbeats 2000000 in
theorem field_Unpack {a : Option Addr} {ca : Nat} (xs : List Int) (u : Int) (l : List Int) (q : Int) {w : World} (hpq : unpackR xs u = (l, q)) (h : At .i64 w a xs) (hl : xs.length ≤ maxLen) (h0 : 0 ≤ u) (h1 : u < 18446744073709551616) :
    Calls Tryd.prog 18 #[.slice a xs.length ca, .int .u64 u] w (Words2 l q w) := by
  have hx := (Ext.refl w).alloc (.cells #[.int .u64 u] 24)
  have H := Lib.hid h; have HL := Lib.hid hl; have HU := Lib.hid h1
  have hl2 := hl
  unfold maxLen at hl2
  clear h hl h1
  by_cases wk : Wok xs
  · have WK := Lib.hid wk
    have HA := Lib.hid (allR_yes wk)
    have hfr := wk.fr0 xs.length (Nat.le_refl _)
    have hpos := wk.pos
    have hmany := wk.many xs.length (Nat.le_refl _)
    have hl64 := wk.le64
    obtain ⟨n, hn⟩ : ∃ n : Int, (Lib.bitLen u.toNat : Int) = n := ⟨_, rfl⟩
    have ht := len_test (m := fr xs xs.length) h0 HU.out (by omega) hfr.2
    rw [hn] at ht
    have HN := Lib.hid hn; clear hn
    cases hf : fitsB u (fr xs xs.length)
    · rw [unpackR_five wk hf] at hpq
      cases hpq
      rw [hf] at ht
      replace ht : fr xs xs.length < n := by simpa using ht
      clear wk hf
      generalize fr xs xs.length = s at *
      go_enter Tryd.func18, Tryd.ntmps18
      go_wp2_with fail
      refine (field_all xs _ _ HA.out (H.out.ext hx) HL.out).mono ?_
      rintro e w1 ⟨rfl, h1⟩
      have c1 := h1.cell (cell_new1 w (.int .u64 u) 24)
      go_wp2_with fail
      refine (bits_Len64 _ n _ h0 HU.out HN.out).mono ?_
      rintro e w1000 ⟨rfl, rfl⟩
      go_wp2_with fail
      go_ret2
      exact Words2.nil (hx.trans h1)
    · rw [unpackR_yes wk hf] at hpq
      cases hpq
      rw [hf] at ht
      replace ht : n ≤ fr xs xs.length := by simpa using ht
      have hc0 : ∀ w1 : World, Ext (w.alloc (.cells #[.int .u64 u] 24)) w1 → UnpW w (w1.alloc (.cells #[.slice none 0 0] 50)) w.heap.size w1.heap.size u (unp xs u 0) := by
        intro w1 h1
        have := h1.size
        simp at this
        exact ⟨(hx.trans h1).alloc _, cell_alloc (h1.cell (cell_new1 _ _ _)) _, ⟨_, cell_new1 _ _ _, World.ownsRow_nil _ _ _ _⟩, World.frozen?_alloc_at _ _ _ _ rfl, by omega, by omega⟩
      have HC := Lib.hid hc0
      clear wk hf hc0
      generalize hs : fr xs xs.length = s at *
      have HS := Lib.hid hs; clear hs
      go_enter Tryd.func18, Tryd.ntmps18
      go_wp2_with fail
      refine (field_all xs _ _ HA.out (H.out.ext hx) HL.out).mono ?_
      rintro e w1 ⟨rfl, h1⟩
      have c1 := h1.cell (cell_new1 w (.int .u64 u) 24)
      have P0 := Lib.hid (HC.out w1 h1)
      have S1 := Lib.hid h1.size
      go_wp2_with fail
      refine (bits_Len64 _ n _ h0 HU.out HN.out).mono ?_
      rintro e w1000 ⟨rfl, rfl⟩
      go_wp2_with fail
      refine (field_each_ok xs s (fun i W => UnpW w W w.heap.size w1.heap.size u (unp xs u i)) HL.out (fun i W hW => H.out.ext hW.ext)
        (fun i W hi hW => by
          have := field_Unpack1 (unp xs u i) (i := (i : Int)) _ _ hW h0 HU.out (gget_at WK.out i hi u) (by rw [unp_len]; omega)
          rw [← unp_succ] at this
          exact this)
        WK.out.fr0 P0.out enters_Unpack1 HS.out).mono ?_
      rintro e w2 ⟨rfl, hW⟩
      obtain ⟨sv, c2, ho⟩ := hW.out
      rw [unp_len] at ho
      obtain ⟨g, cap, rfl, g1, g2, g3, g4, g5, g6, g7⟩ := own_ints ho hpos
      have HW := Lib.hid hW; have G6 := Lib.hid g6; have G7 := Lib.hid g7; have G3 := Lib.hid g3
      clear hW ho g6 g7 g3
      go_wp2_with fail
      go_ret2
      refine ⟨_, cap, ?_, ⟨G6.out, by rw [unp_len]; exact g4, g5, fun _ => ⟨g, rfl, ?_, g2, G7.out⟩⟩, HW.out.ext⟩
      · rw [unp_len]; rfl
      · have := HW.out.above; omega
  · have HA := Lib.hid (allR_no wk)
    rw [unpackR_bad1 wk] at hpq
    cases hpq
    clear wk
    go_enter Tryd.func18, Tryd.ntmps18
    go_wp2_with fail
    refine (field_all xs _ _ HA.out (H.out.ext hx) HL.out).mono ?_
    rintro e w1 ⟨rfl, h1⟩
    go_wp2_with fail
    go_ret2
    exact Words2.nil (hx.trans h1)

end Go.Proofs.YtjdagameeopadaaDoor
