/-
  Plain Lean on heads as words: what head.Put, Get, Need and Field compute. No program is named here.
-/
import Derived.Test.YtjdagameeopadaaDoorWidP
namespace Go.Proofs.YtjdagameeopadaaDoor

structure Hd where
  c : Int
  r : Int
  w : Int

/-- 16, 16, 16, 8 and 8 bits. -/
def hdws : List Int := [16, 16, 16, 8, 8]
theorem hdws_ok : Wok hdws := wokB_iff.1 (by decide)

def hdok (h : Hd) : Prop := (0 ≤ h.c ∧ h.c < 8) ∧ 0 ≤ h.r ∧ 0 ≤ h.w ∧ h.r ≤ 63 ∧ h.w ≤ 63 - h.r
instance (h : Hd) : Decidable (hdok h) := by unfold hdok; infer_instance
def hdword (h : Hd) : Int := h.w * 65536 + h.r * 4294967296 + h.c * 281474976710656 + 199 * 72057594037927936
def hdput (h : Hd) : Int × Int := if hdok h then (hdword h, 0) else (0, 2)
def hdraw (u : Int) : Hd := ⟨u / 281474976710656 % 256, u / 4294967296 % 65536, u / 65536 % 65536⟩
def hdnil : Hd := ⟨0, 0, 0⟩
def hdis (u : Int) : Prop := u % 65536 = 0 ∧ u / 72057594037927936 = 199 ∧ hdok (hdraw u)
instance (u : Int) : Decidable (hdis u) := by unfold hdis; infer_instance
def hdget (u : Int) : Hd × Int := if hdis u then (hdraw u, 0) else (hdnil, 5)
def hdneed (h : Hd) : Int × Int := if hdok h then (h.r + h.w + 1, 0) else (0, 2)
def hdfield (h : Hd) (i : Int) : Bool × Int := if hdok h then (if i < 0 ∨ h.r + h.w ≤ i then (false, 110) else (decide (i < h.r), 0)) else (false, 2)

theorem hdput_yes {h : Hd} (k : hdok h) : hdput h = (hdword h, 0) := by unfold hdput; rw [if_pos k]
theorem hdput_no {h : Hd} (k : ¬ hdok h) : hdput h = (0, 2) := by unfold hdput; rw [if_neg k]
theorem hdget_yes {u : Int} (k : hdis u) : hdget u = (hdraw u, 0) := by unfold hdget; rw [if_pos k]
theorem hdget_no {u : Int} (k : ¬ hdis u) : hdget u = (hdnil, 5) := by unfold hdget; rw [if_neg k]

/-- The words of the parts, put together by field.Pack. -/
theorem hdput_pack {h : Hd} (k : hdok h) : packR hdws [0, h.w, h.r, h.c, 199] = (hdword h, 0) := by
  obtain ⟨c, r, w⟩ := h
  obtain ⟨⟨h1, h2⟩, h3, h4, h5, h6⟩ := k
  simp only at h1 h2 h3 h4 h5 h6
  unfold packR
  rw [if_pos ⟨wokB_iff.2 hdws_ok, rfl⟩, if_pos]
  · show (((pk hdws [0, w, r, c, 199] 5 : Nat) : Int), (0 : Int)) = (w * 65536 + r * 4294967296 + c * 281474976710656 + 199 * 72057594037927936, 0)
    have e : pk hdws [0, w, r, c, 199] 5 = 0 + 2 ^ 0 * 0 + 2 ^ 16 * w.toNat + 2 ^ 32 * r.toNat + 2 ^ 48 * c.toNat + 2 ^ 56 * 199 := rfl
    rw [e]
    congr 1
    omega
  · unfold allFits
    simp only [decide_eq_true_eq]
    intro k hk
    have hk3 : k < 5 := hk
    unfold fitsB
    simp only [decide_eq_true_eq]
    match k, hk3 with
    | 0, _ => show (0 : Int).toNat < 2 ^ 16; decide
    | 1, _ => show w.toNat < 2 ^ 16; omega
    | 2, _ => show r.toNat < 2 ^ 16; omega
    | 3, _ => show c.toNat < 2 ^ 8; omega
    | 4, _ => show (199 : Int).toNat < 2 ^ 8; decide
theorem hdget_unpack {u : Int} (h0 : 0 ≤ u) (h1 : u < 18446744073709551616) : unpackR hdws u = ([u % 65536, (hdraw u).w, (hdraw u).r, (hdraw u).c, u / 72057594037927936], 0) := by
  unfold unpackR
  rw [if_pos (wokB_iff.2 hdws_ok), if_pos]
  · have e : unp hdws u 5 = [fgetI u 0 16, fgetI u 16 16, fgetI u 32 16, fgetI u 48 8, fgetI u 56 8] := rfl
    show (unp hdws u 5, (0 : Int)) = _
    rw [e]
    obtain ⟨n, rfl⟩ := Int.eq_ofNat_of_zero_le h0
    unfold fgetI fget hdraw
    have a0 : n / 2 ^ (0 : Int).toNat % 2 ^ (16 : Int).toNat = n % 65536 := by show n / 1 % 65536 = _; rw [Nat.div_one]
    have a1 : n / 2 ^ (16 : Int).toNat % 2 ^ (16 : Int).toNat = n / 65536 % 65536 := rfl
    have a2 : n / 2 ^ (32 : Int).toNat % 2 ^ (16 : Int).toNat = n / 4294967296 % 65536 := rfl
    have a3 : n / 2 ^ (48 : Int).toNat % 2 ^ (8 : Int).toNat = n / 281474976710656 % 256 := rfl
    have a4 : n / 2 ^ (56 : Int).toNat % 2 ^ (8 : Int).toNat = n / 72057594037927936 := by
      show n / 72057594037927936 % 256 = _
      omega
    rw [Int.toNat_natCast, a0, a1, a2, a3, a4]
    simp
  · unfold fitsB
    simp only [decide_eq_true_eq]
    show u.toNat < 2 ^ 64
    exact lt64 h0 h1

theorem hdword_64 {h : Hd} (k : hdok h) : 0 ≤ hdword h ∧ hdword h < 18446744073709551616 := by
  obtain ⟨⟨h1, h2⟩, h3, h4, h5, h6⟩ := k
  unfold hdword; omega
theorem hdraw_word {h : Hd} (k : hdok h) : hdraw (hdword h) = h := by
  obtain ⟨c, r, w⟩ := h
  obtain ⟨⟨h1, h2⟩, h3, h4, h5, h6⟩ := k
  simp only at h1 h2 h3 h4 h5 h6
  unfold hdraw hdword
  simp only [Hd.mk.injEq]
  omega
theorem hdget_word {h : Hd} (k : hdok h) : hdget (hdword h) = (h, 0) := by
  rw [hdget_yes, hdraw_word k]
  refine ⟨?_, ?_, by rw [hdraw_word k]; exact k⟩
  · obtain ⟨⟨h1, h2⟩, h3, h4, h5, h6⟩ := k
    unfold hdword; omega
  · obtain ⟨⟨h1, h2⟩, h3, h4, h5, h6⟩ := k
    unfold hdword; omega
theorem hdis_word {u : Int} (k : hdis u) : hdword (hdraw u) = u := by
  obtain ⟨h1, h2, h3⟩ := k
  unfold hdraw hdword
  simp only
  omega
theorem hdword_inj {g h : Hd} (kg : hdok g) (kh : hdok h) (e : hdword g = hdword h) : g = h := by
  rw [← hdraw_word kg, e, hdraw_word kh]

end Go.Proofs.YtjdagameeopadaaDoor
