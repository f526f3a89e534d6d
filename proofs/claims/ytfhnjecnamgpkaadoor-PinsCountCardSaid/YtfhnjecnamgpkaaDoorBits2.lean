/-
  bits.New, Clear, Less, Words, Copy, Count.
-/
import Derived.Test.YtfhnjecnamgpkaaDoorBits
import Derived.Deep.OwnRows
import Derived.Lib.SliceRun
import Derived.Laws.Bits128
import Derived.Laws.OwnMore
namespace Go.Proofs.YtfhnjecnamgpkaaDoor
open Go.RowKit

/-- What New hands back: a row of zeros of its own. -/
def NewPost (n : Nat) (w : World) (e : Ending) (w' : World) : Prop :=
  ∃ b g, e = .returned (.tuple #[.pointer (some ⟨b, 0, none⟩), .int .i64 0]) ∧ RowAt w' b g (List.replicate n false) ∧ w.heap.size ≤ b ∧ (0 < n → w.heap.size ≤ g) ∧ Ext w w'

set_option maxHeartbeats 1000000 in
theorem bits_New_no (n : Int) {w : World} (h : n < 0 ∨ 65536 < n) : Calls Tryd.prog 22 #[.int .i64 n] w fun e w' => e = .returned (.tuple #[.pointer none, .int .i64 2]) ∧ w = w' := by
  by_cases h0 : n < 0
  · go_enter Tryd.func22, Tryd.ntmps22
    go_wp2_with fail
    go_ret2
    exact ⟨rfl, rfl⟩
  · have h1 : 65536 < n := by omega
    have h2 : 0 ≤ n := by omega
    go_enter Tryd.func22, Tryd.ntmps22
    go_wp2_with fail
    go_ret2
    exact ⟨rfl, rfl⟩

theorem made_at {z : Value} {n i : Nat} (h : i < n) : (madeCells #[z] n)[i]? = some z := by
  have e := toList_madeCells_one z n
  rw [← Array.getElem?_toList, e]
  simp [h]
theorem wds_zero (n k : Nat) (h : k < wlen n) : nth (wds (List.replicate n false)) k = 0 := by
  rw [wds_nth (by simpa using h), wd_zero fun j _ => bnth_rep0 n _]
  rfl
theorem RowAt.newZero {w : World} {n : Nat} {t u : TypeId} (h : n ≤ 65536) : RowAt ((w.alloc (.cells (madeCells #[.int .u64 0] (wlen n)) t)).alloc (.cells #[.slice (some ⟨w.heap.size, 0, none⟩) (wlen n) (wlen n), .int .i64 n, .bool true] u)) (w.heap.size + 1) w.heap.size (List.replicate n false) := by
  have c := fun i => cell_newN (w.alloc (.cells (madeCells #[.int .u64 0] (wlen n)) t)) #[.slice (some ⟨w.heap.size, 0, none⟩) (wlen n) (wlen n), .int .i64 n, .bool true] u i
  simp only [World.size_alloc] at c
  refine ⟨⟨some ⟨w.heap.size, 0, none⟩, wlen n, ?_, ?_, ?_, ?_, fun _ => ⟨rfl, fun o => ?_⟩⟩, ?_, ?_, ?_⟩
  · rw [c 0]; simp
  · refine At.mk fun i hi => ?_
    rw [wds_len, List.length_replicate] at hi
    rw [Nat.zero_add, wds_zero n i hi]
    exact ((Ext.refl _).alloc _).cell (by rw [cell_newN, made_at hi])
  · simp
  · unfold wlen maxLen; omega
  · rw [((Ext.refl _).alloc _).frozen (by simp)]; simp
  · rw [c 1]; simp
  · rw [c 2]; simp
  · simpa using h
theorem info_w64 : (Tryd.prog.info? 55).map (fun i => (i.zero, i.size, i.bytes)) = some (some (.int .u64 0), 1, 8) := by kernel_rfl
theorem make_words (n : Nat) (h : n ≤ 65536) : ∀ W : World, (Instr.makeSlice 51 (.int .i64 (((n : Int) + 64 - 1) / 64)) (.int .i64 (((n : Int) + 64 - 1) / 64))).run Tryd.prog W = .ok (.slice (some ⟨W.heap.size, 0, none⟩) (wlen n) (wlen n)) (W.alloc (.cells (madeCells #[.int .u64 0] (wlen n)) 55)) := by
  intro W
  have e : ((n : Int) + 64 - 1) / 64 = ((wlen n : Nat) : Int) := by unfold wlen; omega
  rw [e]
  exact run_make_row' 51 55 (.int .u64 0) 8 Tryd.underlying51 info_w64 rfl .i64 .i64 (wlen n) (by unfold wlen; omega) (by unfold wlen; omega) W

set_option maxRecDepth 100000 in
set_option maxHeartbeats 1000000 in
theorem bits_New (n : Nat) {w : World} (h : n ≤ 65536) : Calls Tryd.prog 22 #[.int .i64 n] w (NewPost n w) := by
  have hmk := make_words n h
  have t0 : decide ((n : Int) < 0) = false := by simp
  have t1 : decide ((65536 : Int) < (n : Int)) = false := by simp; omega
  go_enter Tryd.func22, Tryd.ntmps22
  go_wp2_with fail
  go_ret2
  exact ⟨w.heap.size + 1, w.heap.size, rfl, RowAt.newZero h, by omega, fun _ => Nat.le_refl _, ((Ext.refl w).alloc _).alloc _⟩

def ClonedInts (k : IntKind) (xs : List Int) (w : World) (e : Ending) (w' : World) : Prop := ∃ a cap, e = .returned (.slice a xs.length cap) ∧ NewInts k w w' a cap xs ∧ Ext w w'

set_option maxHeartbeats 1000000 in
theorem clone_words {a : Option Addr} {cap : Nat} (xs : List Int) {w : World} (h : At .u64 w a xs) (hb : xs.length * 8 ≤ 140737488355328) :
    Calls Tryd.prog 53 #[.slice a xs.length cap] w (ClonedInts .u64 xs w) := by
  obtain ⟨i0, hi0, hz0, hz1, hz2⟩ := info_parts info_w64
  have he : ∀ (a : Option Addr) n c (w : World), (binOp .eql 51 (.slice a n c) (.slice none 0 0)).run Tryd.prog w = .ok (.bool a.isNone) w := fun a n c w => Lib.run_eql_slice_nil w _ _ a n c 0 0 Tryd.underlying51
  cases a with
  | none =>
    have hl : xs.length = 0 := by
      rcases Nat.eq_zero_or_pos xs.length with c | c
      · exact c
      · obtain ⟨b, o, e, _⟩ := h.pos c; cases e
    obtain rfl := List.length_eq_zero_iff.1 hl
    clear h
    go_enter Tryd.func53, Tryd.ntmps53
    go_wp2_with fail
    go_ret
    exact ⟨none, 0, rfl, ⟨fun i hi => absurd hi (Nat.not_lt_zero _), Nat.le_refl _, Nat.zero_le _, fun hi => absurd hi (Nat.lt_irrefl 0)⟩, Ext.refl w⟩
  | some ad =>
    have hnews : ∀ j u, (ncs .u64 xs)[j]? = some u → w.cell? (ad.add j) = some u := by
      intro j u hj
      have hl := (List.getElem?_eq_some_iff.1 hj).1
      rw [ncs_len] at hl
      obtain ⟨b, o, e, hc⟩ := h.pos (by omega)
      cases e
      exact ncs_news hc j u hj
    have HN := Lib.hid hnews; clear hnews h
    have hn63 : xs.length ≤ maxLen := by unfold maxLen; omega
    have HM := Lib.hid hn63; clear hn63
    go_enter Tryd.func53, Tryd.ntmps53
    go_wp2_with (at_builtin; refine wpList_append_own _ rfl (.tmp 5) (.tmp 6) 51 rfl w.heap.size 55 i0 (.int .u64 0) 1 8 Tryd.underlying51 hi0 hz0 hz1 hz2 rfl (by decide) (.slice (some ⟨w.heap.size, 0, none⟩) 0 0) 0 [] rfl (World.ownsRow_made _ #[] 0 (Nat.le_refl _) (by decide) rfl) ad xs.length cap (ncs .u64 xs) rfl (by rw [ncs_len, Nat.mul_one]) (fun j u hj => cell_alloc (HN.out j u hj) _) (ncs_one _ _) (by rw [Nat.zero_add]; exact HM.out) (by rw [Nat.zero_add]; exact hb) (by simp) ?_; intro v' w1 hown hgrow hnil)
    go_ret
    rw [Nat.zero_add, List.nil_append] at hown
    have hx : Ext w w1 := Ext.of (((Ext.refl w).alloc (.cells #[] 55)).below.grown hgrow (by simp) (fun k e => by cases e; exact Nat.le_refl _))
    obtain ⟨a', c', rfl, hn⟩ := newInts_of hown
    exact ⟨a', c', rfl, hn, hx⟩

set_option maxHeartbeats 1000000 in
theorem row_Words_no {p : Option Addr} {w : World} (h : NoneAt w p true) : Calls Tryd.prog 28 #[.pointer p] w fun e w' => e = .returned (.slice none 0 0) ∧ w = w' := by
  go_enter Tryd.func28, Tryd.ntmps28
  go_wp2_with fail
  refine (row_none true h).mono ?_
  rintro e w1000 ⟨rfl, rfl⟩
  go_wp2_with fail
  go_ret
  exact ⟨rfl, rfl⟩
set_option maxHeartbeats 1000000 in
theorem row_Words {b g : Nat} (bs : List Bool) {w : World} (h : RowAt w b g bs) : Calls Tryd.prog 28 #[.pointer (some ⟨b, 0, none⟩)] w (ClonedInts .u64 (wds bs) w) := by
  obtain ⟨a, cap, h0, hA, h1, h2, _⟩ := h.ex
  have hb : (wds bs).length * 8 ≤ 140737488355328 := by rw [wds_len]; have := h.most; unfold wlen; omega
  have HA := Lib.hid hA; have HB := Lib.hid hb; have HN := Lib.hid h.isNone
  have L := Lib.hid (wds_len bs)
  clear h hA hb
  go_enter Tryd.func28, Tryd.ntmps28
  go_wp2_with fail
  refine (row_none false HN.out).mono ?_
  rintro e w1000 ⟨rfl, rfl⟩
  go_wp2_with fail
  rw [← L.out]
  refine (clone_words (wds bs) HA.out HB.out).mono ?_
  rintro e w1 ⟨a1, c1, rfl, hn, hx⟩
  go_wp2_with fail
  go_ret
  exact ⟨a1, c1, rfl, hn, hx⟩

/-! ### Count -/
theorem and_nat64 (a b : Nat) (ha : a < 18446744073709551616) (hb : b < 18446744073709551616) : bits .and .u64 (a : Int) (b : Int) = ((a &&& b : Nat) : Int) := u64_and_nat a b ha hb
theorem wrapN {n : Nat} (h : n < 18446744073709551616) : IntKind.u64.wrap (n : Int) = n := by
  rw [IntKind.wrap_u64]; exact Int.emod_eq_of_lt (Int.natCast_nonneg _) (by omega)
theorem wrapA {m n : Nat} (h : m + n < 18446744073709551616) : IntKind.u64.wrap ((m : Int) + (n : Int)) = ((m + n : Nat) : Int) := by
  rw [← wrapN h]; congr 1
theorem andC {n c : Nat} {k : Int} (h : n < 18446744073709551616) (hc : c < 18446744073709551616) (e : (c : Int) = k) : bits .and .u64 (n : Int) k = ((n &&& c : Nat) : Int) := by
  rw [← e]; exact u64_and_nat n c h hc
set_option maxRecDepth 100000 in
set_option maxHeartbeats 1000000 in
theorem bits_OnesCount64 (x : Nat) {w : World} (hx : x < 18446744073709551616) : Calls Tryd.prog 52 #[.int .u64 x] w fun e w' => e = .returned (.int .i64 ((popc 64 x : Nat) : Int)) ∧ w = w' := by
  have HP := Lib.hid (ones64_eq hx)
  have HM := Lib.hid (ones64_mid hx)
  have HX := Lib.hid hx
  clear hx
  go_enter Tryd.func52, Tryd.ntmps52
  go_wp2_with fail
  go_ret
  refine ⟨ret_int ?_, rfl⟩
  have h := HX.out
  obtain ⟨hm, ha, hb⟩ := HM.out
  obtain ⟨hs, hd, he, hf⟩ := sum8 _ _ _ _ _ _ _ _ (popc_le 8 (x % 256)) (popc_le 8 (x / 256 % 256)) (popc_le 8 (x / 65536 % 256)) (popc_le 8 (x / 16777216 % 256)) (popc_le 8 (x / 4294967296 % 256)) (popc_le 8 (x / 1099511627776 % 256)) (popc_le 8 (x / 281474976710656 % 256)) (popc_le 8 (x / 72057594037927936 % 256)) _ _ _ _ rfl rfl rfl rfl
  have hmm := hm
  rw [show (bytes8 x).map (fun b => popc 8 b) = [popc 8 (x % 256), popc 8 (x / 256 % 256), popc 8 (x / 65536 % 256), popc 8 (x / 16777216 % 256), popc 8 (x / 4294967296 % 256), popc 8 (x / 1099511627776 % 256), popc 8 (x / 281474976710656 % 256), popc 8 (x / 72057594037927936 % 256)] from rfl] at hmm
  rw [← hmm] at hs hd he hf
  rw [← popc_bytes] at hs
  have q : ∀ (n d : Nat), ((n : Int) / (d : Int)) = ((n / d : Nat) : Int) := fun n d => (Int.natCast_ediv n d).symm
  have q2 : ((x : Int) / 2) = ((x / 2 : Nat) : Int) := q x 2
  rw [q2, andC (n := x / 2) (by omega) (c := 6148914691236517205) (k := 6148914691236517205) (by decide) rfl, andC (n := x) h (c := 6148914691236517205) (k := 6148914691236517205) (by decide) rfl, wrapA ha]
  generalize (x / 2 &&& 6148914691236517205) + (x &&& 6148914691236517205) = a at *
  rw [show ((a : Int) / 4) = ((a / 4 : Nat) : Int) from q a 4, andC (n := a / 4) (by omega) (c := 3689348814741910323) (k := 3689348814741910323) (by decide) rfl, andC (n := a) ha (c := 3689348814741910323) (k := 3689348814741910323) (by decide) rfl, wrapA (by omega)]
  generalize (a / 4 &&& 3689348814741910323) + (a &&& 3689348814741910323) = b at *
  rw [show ((b : Int) / 16) = ((b / 16 : Nat) : Int) from q b 16, wrapA (by omega), andC (n := b / 16 + b) (by omega) (c := 1085102592571150095) (k := 1085102592571150095) (by decide) rfl]
  generalize ((b / 16 + b) &&& 1085102592571150095) = c at *
  rw [show ((c : Int) / 256) = ((c / 256 : Nat) : Int) from q c 256, wrapA hd]
  generalize c + c / 256 = d at *
  rw [show ((d : Int) / 65536) = ((d / 65536 : Nat) : Int) from q d 65536, wrapA he]
  generalize d + d / 65536 = e at *
  rw [show ((e : Int) / 4294967296) = ((e / 4294967296 : Nat) : Int) from q e 4294967296, wrapA (by omega)]
  generalize e + e / 4294967296 = f at *
  have hp : popc 64 x ≤ 64 := popc_le 64 x
  rw [IntWalk.wrap64_in _ (by omega), i64_and127, show ((f : Int) % 128) = ((f % 128 : Nat) : Int) from (Int.natCast_emod f 128).symm, hs]

end Go.Proofs.YtfhnjecnamgpkaaDoor
