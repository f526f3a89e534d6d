/-
  commonageref04: Set, Next, Less; commonageref03.Same.
-/
import Derived.Test.YtfhnjecnamgpkaaDoorRef04
namespace Go.Proofs.YtfhnjecnamgpkaaDoor
open Go.RowKit

/-- What Set hands back: a row of truths, and a number. -/
def SetBits (a0 : Option Addr) (bs' : List Bool) (q : Int) (w : World) (e : Ending) (w' : World) : Prop := ∃ a cap, e = .returned (.tuple #[.slice a bs'.length cap, .int .i64 q]) ∧ BAt w' a bs' ∧ (∀ B, B ≤ w.heap.size → Far B a0 → Far B a) ∧ Ext w w'

theorem grown_alloc {w W W' : World} {o : Obj} (hg : (W.alloc o).grownBy W' (some W.heap.size)) (hx : Ext w W) : Ext w W' :=
  Ext.of ((hx.alloc o).below.grown hg (by simp; have := hx.size; omega) (fun k e => by cases e; exact hx.size))

set_option maxHeartbeats 2000000 in
theorem ref04_Set {a : Option Addr} {cap : Nat} {i : Int} {is : Bool} (bs bs' : List Bool) (q : Int) {w : World} (h : BAt w a bs) (hl : bs.length ≤ 65536) (hr : bsetR bs i is = (bs', q)) :
    Calls Tryd.prog 26 #[.slice a bs.length cap, .int .i64 i, .bool is] w (SetBits a bs' q w) := by
  by_cases hi : 0 ≤ i ∧ i < bs.length
  · obtain ⟨i0, hi0, hz0, hz1, hz2⟩ := info_parts info_bool
    obtain ⟨n, rfl⟩ := Int.eq_ofNat_of_zero_le hi.1
    have hn : n < bs.length := by omega
    rw [bsetR_yes hn] at hr
    cases hr
    obtain ⟨b, o, rfl, hc⟩ := h.pos (by omega)
    have HN := Lib.hid (bcs_news hc)
    have hm : bs.length ≤ maxLen := by unfold maxLen; omega
    have HM := Lib.hid hm
    clear hc h hm hi
    go_enter Tryd.func26, Tryd.ntmps26
    go_wp2_with (at_builtin; refine wpList_append_own _ rfl (.tmp 18) (.tmp 19) 25 rfl w.heap.size 4 i0 (.bool false) 1 1 Tryd.underlying25 hi0 hz0 hz1 hz2 rfl (by decide) (.slice (some ⟨w.heap.size, 0, none⟩) 0 0) 0 [] rfl (World.ownsRow_made _ #[] 0 (Nat.le_refl _) (by decide) rfl) ⟨b, o, none⟩ bs.length cap (bcs bs) rfl (by rw [bcs_len, Nat.mul_one]) (fun j u hj => cell_alloc (HN.out j u hj) _) (bcs_one _) (by rw [Nat.zero_add]; exact HM.out) (by rw [Nat.zero_add]; omega) (by simp) ?_; intro v' w1 hown hgrow hnil; rw [Nat.zero_add, List.nil_append] at hown; obtain ⟨a', c', rfl, hnb⟩ := newBits_of hown; have hx := Lib.hid (grown_alloc hgrow (Ext.refl w)); obtain ⟨g', rfl, g1, g2, g3⟩ := hnb.own (by omega); have g4 := g3 n; have HB := Lib.hid hnb.row; have g6 := hnb.cap1; have g7 := hnb.cap2; have g5 := (show w1.cell? ⟨g', n, none⟩ = some (.bool (bnth bs n)) by have := HB.out n hn; obtain ⟨x, y, e, hc⟩ := this; cases e; simpa using hc); clear hnb hown hgrow hnil g3)
    go_ret2
    exact ⟨_, c', by rw [List.length_set]; rfl, HB.out.set hn is, fun B hB _ x o e => (by cases e; exact Nat.le_trans hB g1), hx.out.setCell g1 _⟩
  · rw [bsetR_no hi] at hr
    cases hr
    by_cases h0 : i < 0
    · clear hi
      go_enter Tryd.func26, Tryd.ntmps26
      go_wp2_with fail
      go_ret2
      exact ⟨a, cap, rfl, h, fun _ _ k => k, Ext.refl w⟩
    · have h1 : 0 ≤ i := by omega
      have h2 : (bs.length : Int) ≤ i := by omega
      clear hi
      go_enter Tryd.func26, Tryd.ntmps26
      go_wp2_with fail
      go_ret2
      exact ⟨a, cap, rfl, h, fun _ _ k => k, Ext.refl w⟩

set_option maxHeartbeats 2000000 in
theorem ref04_Next {a : Option Addr} {cap : Nat} {fm : Int} {is : Bool} (bs : List Bool) (p : Int) (q : Bool) {w : World} (h : BAt w a bs) (hl : bs.length ≤ 65536) (hn : IsNext bs fm is p q) :
    Calls Tryd.prog 24 #[.slice a bs.length cap, .int .i64 fm, .bool is] w fun e w' => e = .returned (.tuple #[.int .i64 p, .bool q]) ∧ w = w' := by
  have H := Lib.hid h; have HN := Lib.hid hn; clear h hn
  obtain ⟨m, hm, hmm⟩ : ∃ m : Int, ((fm < 0 ∧ m = 0) ∨ (0 ≤ fm ∧ fm = m)) ∧ 0 ≤ m := by
    by_cases h : fm < 0
    · exact ⟨0, .inl ⟨h, rfl⟩, by omega⟩
    · exact ⟨fm, .inr ⟨by omega, rfl⟩, by omega⟩
  have start : ∀ j : Nat, fm ≤ j → (j : Int) < m → bnth bs j = !is := fun j h1 h2 => by omega
  have ST := Lib.hid start
  have hfm : fm ≤ m := by omega
  clear start
  rcases hm with ⟨hf, rfl⟩ | ⟨hf, rfl⟩
  all_goals
    go_enter Tryd.func24, Tryd.ntmps24
    go_wp2_with fail
    go_loop [8] (fun i => ∃ k : Int, fm ≤ k ∧ 0 ≤ k ∧ i = .int .i64 k ∧ Hid (∀ j : Nat, fm ≤ j → (j : Int) < k → j < bs.length → bnth bs j = !is)) (fun i => (bs.length : Int).toNat - (intOf i).toNat)
    case atStart => exact ⟨_, hfm, hmm, rfl, fun j h1 h2 _ => ST.out j h1 h2⟩
    case round =>
      obtain ⟨k, hk, hk0, rfl, HJ⟩ := hrel
      by_cases hlt : k < bs.length
      · obtain ⟨n, rfl⟩ := Int.eq_ofNat_of_zero_le hk0
        have hnl : n < bs.length := by omega
        obtain ⟨b, o, rfl, hc⟩ := H.out.pos (by omega)
        have hcn := hc n hnl
        clear hc
        by_cases hv : bnth bs n = is
        · rw [hv] at hcn
          have HV := Lib.hid hv
          clear hv
          have hs : (is == is) = true := by simp
          go_wp2_with fail
          go_ret2
          have := IsNext.same (p := (n : Int)) (q := true) (.inl ⟨rfl, n, rfl, hk, hnl, HV.out, fun j h1 h2 => HJ j h1 (by omega) (by omega)⟩) HN.out
          exact ⟨by rw [← this.1, ← this.2]; rfl, rfl⟩
        · have hv' : bnth bs n = !is := by cases h1 : bnth bs n <;> cases is <;> simp_all
          rw [hv'] at hcn
          have HV := Lib.hid hv'
          clear hv hv'
          have hs : ((!is) == is) = false := by cases is <;> rfl
          go_wp2_with fail
          go_round
          case rel => exact ⟨(n : Int) + 1, by omega, by omega, rfl, fun j h1 h2 h3 => by
            rcases Nat.lt_or_ge j n with c | c
            · exact HJ j h1 (by omega) h3
            · obtain rfl : j = n := by omega
              exact HV.out⟩
          case measure => simp [intOf]; omega
      · have hge : (bs.length : Int) ≤ k := by omega
        clear hlt
        go_wp2_with fail
        go_ret2
        have := IsNext.same (p := 0) (q := false) (.inr ⟨rfl, rfl, fun j h1 h2 => HJ j h1 (by omega) h2⟩) HN.out
        exact ⟨by rw [← this.1, ← this.2]; rfl, rfl⟩

theorem nth_ext {a b : List Int} (h : a.length = b.length) (he : ∀ i, i < a.length → nth a i = nth b i) : a = b := by
  refine List.ext_getElem h fun i h1 h2 => ?_
  have := he i h1
  simpa [nth, List.getD, h1, h2] using this

/-! ### Less -/
def blessU (rs bs : List Bool) (k : Nat) : List Bool := (List.range k).map fun i => bnth rs i && !bnth bs i
theorem blessU_succ (rs bs : List Bool) (k : Nat) : blessU rs bs (k + 1) = blessU rs bs k ++ [bnth rs k && !bnth bs k] := by unfold blessU; rw [List.range_succ, List.map_append]; rfl
theorem blessU_len (rs bs : List Bool) (k : Nat) : (blessU rs bs k).length = k := by unfold blessU; simp
/-- What Less hands back. -/
def lessR (rs bs : List Bool) : List Bool × Int := if rs.length = bs.length then (bless rs bs, 0) else (rs, 2)

set_option maxHeartbeats 4000000 in
theorem ref04_Less {a b : Option Addr} {ca cb : Nat} (rs bs out : List Bool) (q : Int) {w : World} (h : BAt w a rs) (h' : BAt w b bs) (hl : rs.length ≤ 65536) (hl' : bs.length ≤ 65536) (hr : lessR rs bs = (out, q)) :
    Calls Tryd.prog 15 #[.slice a rs.length ca, .slice b bs.length cb] w (SetBits a out q w) := by
  by_cases hlen : rs.length = bs.length
  · obtain ⟨i0, hi0, hz0, hz1, hz2⟩ := info_parts info_bool
    obtain ⟨rfl, rfl⟩ : blessU rs bs rs.length = out ∧ 0 = q := by unfold lessR at hr; rw [if_pos hlen, show bless rs bs = blessU rs bs rs.length from rfl] at hr; simpa using hr
    have H := Lib.hid h; have H' := Lib.hid h'
    have hb : ((rs.length : Int) != (bs.length : Int)) = false := by simp; omega
    have hb2 : (rs.length != bs.length) = false := by simp; omega
    have HL := Lib.hid hlen
    clear h h' hr hlen
    go_enter Tryd.func15, Tryd.ntmps15
    go_wp2_with fail
    go_loopw [6, 7] (fun sv i wr => ∃ k : Nat, k ≤ rs.length ∧ i = .int .i64 k ∧ Hid (wr.ownsRow w.heap.size 4 1 sv k (bcs (blessU rs bs k))) ∧ Ext w wr) (fun _ i _ => rs.length - (intOf i).toNat)
    case atStart => exact ⟨0, Nat.zero_le _, rfl, World.ownsRow_nil _ _ _ _, Ext.refl w⟩
    case round =>
      obtain ⟨k, hk, rfl, HO, hx⟩ := hrel
      obtain ⟨wo, rfl⟩ : ∃ wo : World, wo = wr := ⟨_, rfl⟩
      by_cases hlt : k < rs.length
      · have hlt2 : k < bs.length := by have := HL.out; omega
        obtain ⟨x, o, rfl, hc⟩ := H.out.pos (by omega)
        obtain ⟨y, o', rfl, hc'⟩ := H'.out.pos (by omega)
        have z1 := hx.cell (hc k hlt)
        have z2 := hx.cell (hc' k hlt2)
        have hsz := hx.size
        have hm63 : k + 1 ≤ maxLen := by unfold maxLen; omega
        have HM := Lib.hid hm63
        have HS := Lib.hid (blessU_succ rs bs k)
        clear hm63 hc hc'
        generalize bnth bs k = u at *
        cases hv : bnth rs k
        · rw [hv] at z1 HS
          clear hv
          go_wp2_with (at_builtin; refine wpList_append_lies _ rfl (.tmp 20) (.tmp 32) 25 rfl w.heap.size 4 i0 (.bool false) 1 1 Tryd.underlying25 hi0 hz0 hz1 hz2 rfl (by decide) _ k (bcs (blessU rs bs k)) rfl (HO.out.alloc _) ⟨wo.heap.size, 0, none⟩ 1 1 [.bool false] rfl rfl (news1 _ _ _) (one1 rfl) (by omega) HM.out (by omega) (by simp; omega) (wo.heap.size + 1) (by simp) ?_; intro gg cap w2 hown2 hgrow hat hlt2; have HW := Lib.hid hown2; have hx2 := (hx.alloc (.cells #[.bool false] 4)).grown hgrow fun k e => (HO.out.lt k e).1; clear hown2 hgrow hat hlt2)
          go_roundw
          case rel => exact ⟨k + 1, by omega, by go_num, by unfold Hid; rw [HS.out, ← bcs_snoc]; exact HW.out, hx2⟩
          case measure => simp [intOf]; omega
        · rw [hv] at z1 HS
          clear hv
          go_wp2_with (at_builtin; refine wpList_append_lies _ rfl (.tmp 20) (.tmp 32) 25 rfl w.heap.size 4 i0 (.bool false) 1 1 Tryd.underlying25 hi0 hz0 hz1 hz2 rfl (by decide) _ k (bcs (blessU rs bs k)) rfl (HO.out.alloc _) ⟨wo.heap.size, 0, none⟩ 1 1 [.bool (!u)] rfl rfl (news1 _ _ _) (one1 rfl) (by omega) HM.out (by omega) (by simp; omega) (wo.heap.size + 1) (by simp) ?_; intro gg cap w2 hown2 hgrow hat hlt2; have HW := Lib.hid hown2; have hx2 := (hx.alloc (.cells #[.bool (!u)] 4)).grown hgrow fun k e => (HO.out.lt k e).1; clear hown2 hgrow hat hlt2)
          go_roundw
          case rel => exact ⟨k + 1, by omega, by go_num, by unfold Hid; rw [HS.out, ← bcs_snoc]; exact HW.out, hx2⟩
          case measure => simp [intOf]; omega
      · obtain rfl : k = rs.length := by omega
        have ho := HO.out
        obtain ⟨a, cap, hsv, hnb⟩ := newBits_of (bs := blessU rs bs rs.length) (by rw [blessU_len]; exact ho)
        subst hsv
        have FA := Lib.hid (own_far ho)
        clear ho
        go_wp2_with fail
        go_ret2
        exact ⟨a, cap, rfl, hnb.row, fun B hB _ x o e => Nat.le_trans hB (FA.out x o e), hx⟩
  · obtain ⟨rfl, rfl⟩ : rs = out ∧ 2 = q := by unfold lessR at hr; rw [if_neg hlen] at hr; simpa using hr
    have hb : ((rs.length : Int) != (bs.length : Int)) = true := by simp; omega
    have hb2 : (rs.length != bs.length) = true := by simp; omega
    clear hlen hr
    go_enter Tryd.func15, Tryd.ntmps15
    go_wp2_with fail
    go_ret2
    exact ⟨a, ca, rfl, h, fun _ _ k => k, Ext.refl w⟩

set_option maxHeartbeats 2000000 in
theorem ref03_Same {a b : Option Addr} {ca cb : Nat} (l m : List Int) (r : Bool) {w : World} (hr : decide (l = m) = r) (h : At .u64 w a l) (h' : At .u64 w b m) (hl : l.length ≤ maxLen) (hm : m.length ≤ maxLen) :
    Calls Tryd.prog 29 #[.slice a l.length ca, .slice b m.length cb] w fun e w' => e = .returned (.bool r) ∧ Ext w w' := by
  unfold maxLen at hl hm
  have H := Lib.hid h; have H' := Lib.hid h'; have HR := Lib.hid hr; clear h h' hr
  by_cases hlen : l.length = m.length
  · have hb : (l.length != m.length) = false := by simp [hlen]
    have hb2 : ((l.length : Int) != (m.length : Int)) = false := by simp [hlen]
    have HL := Lib.hid hlen; clear hlen
    go_enter Tryd.func29, Tryd.ntmps29
    go_wp2_with fail
    go_loopw [5] (fun i wr => ∃ k : Nat, k ≤ l.length ∧ i = .int .i64 k ∧ Hid (∀ j, j < k → nth l j = nth m j) ∧ Ext w wr) (fun i _ => l.length - (intOf i).toNat)
    case atStart => exact ⟨0, Nat.zero_le _, rfl, fun j hj => absurd hj (Nat.not_lt_zero _), Ext.refl w⟩
    case round =>
      obtain ⟨k, hk, rfl, HJ, hx⟩ := hrel
      by_cases hlt : k < l.length
      · have hlt2 : k < m.length := by have := HL.out; omega
        obtain ⟨x, o, rfl, hc⟩ := H.out.pos (by omega)
        obtain ⟨y, p, rfl, hc'⟩ := H'.out.pos (by omega)
        have z1 := hx.cell (hc k hlt)
        have z2 := hx.cell (hc' k hlt2)
        clear hc hc'
        by_cases he : nth l k = nth m k
        · have HJ2 : Hid (∀ j, j < k + 1 → nth l j = nth m j) := fun j hj => by
            rcases Nat.lt_or_ge j k with c1 | c1
            · exact HJ j c1
            · obtain rfl : j = k := by omega
              exact he
          rw [← he] at z2
          clear he
          generalize nth l k = u at *
          go_wp2_with fail
          go_quiet (fail)
          go_wp2_with fail
          go_roundw
          case rel => exact ⟨k + 1, by omega, by go_num, HJ2, hx.drewN _⟩
          case measure => simp [intOf]; omega
        · have HE := Lib.hid he
          have hne : (nth l k != nth m k) = true := by simpa using he
          clear he
          generalize hu : nth l k = u at *
          generalize hv : nth m k = v at *
          have HU := Lib.hid hu; have HV := Lib.hid hv; clear hu hv
          go_wp2_with fail
          go_quiet (fail)
          go_wp2_with fail
          go_ret
          exact ⟨ret_bool (by rw [← HR.out, decide_eq_false]; rintro rfl; exact HE.out (by rw [← HU.out, ← HV.out])), hx.drewN _⟩
      · obtain rfl : k = l.length := by omega
        go_wp2_with fail
        go_ret
        exact ⟨ret_bool (by rw [← HR.out, decide_eq_true]; exact nth_ext HL.out HJ), hx⟩
  · have hb : (l.length != m.length) = true := by simpa using hlen
    have hb2 : ((l.length : Int) != (m.length : Int)) = true := by simp; omega
    have HL := Lib.hid hlen; clear hlen
    go_enter Tryd.func29, Tryd.ntmps29
    go_wp2_with fail
    go_ret
    exact ⟨ret_bool (by rw [← HR.out, decide_eq_false]; rintro rfl; exact HL.out rfl), Ext.refl w⟩


end Go.Proofs.YtfhnjecnamgpkaaDoor
