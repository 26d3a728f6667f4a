/- Exp-Golomb codes as plain facts on bits: no program in sight. -/
import Derived.Test.YtkaoeilijdeioaaQuiet
import Derived.Test.YtkaoeilijdeioaaShelf
import Derived.Lib.ItoaNum
namespace Go.Proofs.Ytkaoeilijdeioaa
open Go.RowKit
set_option linter.unusedVariables false
set_option maxRecDepth 100000
set_option linter.unusedSimpArgs false

/-- How many bits 0 stand at place i, at most f. -/
def zr (s : ByteArray) : Nat → Nat → Nat
  | _, 0 => 0
  | i, f + 1 => if uE s i 1 = 0 ∧ uV s i 1 = 0 then zr s (i + 1) f + 1 else 0
/-- At place i stand z bits 0. -/
def Zs (s : ByteArray) (i z : Nat) : Prop := ∀ k, k < z → uE s (i + k) 1 = 0 ∧ uV s (i + k) 1 = 0

theorem Zs.zero (s : ByteArray) (i : Nat) : Zs s i 0 := fun k hk => absurd hk (by omega)
theorem Zs.next {s : ByteArray} {i z : Nat} (h : Zs s i z) (h1 : uE s (i + z) 1 = 0) (h2 : uV s (i + z) 1 = 0) : Zs s i (z + 1) := fun k hk => by
  by_cases e : k = z
  · exact e ▸ ⟨h1, h2⟩
  · exact h k (by omega)

theorem zr_succ (s : ByteArray) (i f : Nat) : zr s i (f + 1) = if uE s i 1 = 0 ∧ uV s i 1 = 0 then zr s (i + 1) f + 1 else 0 := rfl
theorem zr_le (s : ByteArray) : ∀ f i, zr s i f ≤ f
  | 0, i => Nat.le_refl _
  | f + 1, i => by
    unfold zr
    split
    · have := zr_le s f (i + 1); omega
    · omega
theorem zr_of {s : ByteArray} : ∀ {z i f : Nat}, Zs s i z → z ≤ f → zr s i f = zr s (i + z) (f - z) + z
  | 0, i, f, _, _ => by simp
  | z + 1, i, 0, _, hf => by omega
  | z + 1, i, f + 1, h, hf => by
    have h0 := h 0 (by omega)
    rw [Nat.add_zero] at h0
    have hn : Zs s (i + 1) z := fun k hk => by have := h (k + 1) (by omega); rwa [show i + (k + 1) = i + 1 + k by omega] at this
    have e := zr_of (f := f) hn (by omega)
    rw [zr_succ, if_pos h0, e, show i + 1 + z = i + (z + 1) by omega, show f + 1 - (z + 1) = f - z by omega]
    omega
theorem zr_zs {s : ByteArray} : ∀ {f i : Nat}, Zs s i (zr s i f)
  | 0, i => Zs.zero s i
  | f + 1, i => by
    rw [zr_succ]
    split
    · rename_i h
      intro k hk
      cases k with
      | zero => exact h
      | succ k => have := zr_zs (s := s) (f := f) (i := i + 1) k (by omega); rwa [show i + 1 + k = i + (k + 1) by omega] at this
    · exact Zs.zero s i
theorem zr_end {s : ByteArray} : ∀ {f i : Nat}, zr s i f < f → ¬ (uE s (i + zr s i f) 1 = 0 ∧ uV s (i + zr s i f) 1 = 0)
  | 0, i, h => by omega
  | f + 1, i, h => by
    by_cases c : uE s i 1 = 0 ∧ uV s i 1 = 0
    · have e : zr s i (f + 1) = zr s (i + 1) f + 1 := by show (if _ then _ else _) = _; rw [if_pos c]
      rw [e] at h ⊢
      have := zr_end (s := s) (f := f) (i := i + 1) (by omega)
      rwa [show i + 1 + zr s (i + 1) f = i + (zr s (i + 1) f + 1) by omega] at this
    · have e : zr s i (f + 1) = 0 := by show (if _ then _ else _) = _; rw [if_neg c]
      rw [e]; exact c

/-- The zeros at the head of a code. -/
def gz (s : ByteArray) (i : Nat) : Nat := zr s i 32
theorem gz_le (s : ByteArray) (i : Nat) : gz s i ≤ 32 := zr_le s 32 i
theorem gz_full {s : ByteArray} {i : Nat} (h : Zs s i 32) : gz s i = 32 := by
  unfold gz; rw [zr_of h (Nat.le_refl _)]; simp [zr]
theorem gz_stop {s : ByteArray} {i z : Nat} (h : Zs s i z) (hz : z < 32) (hs : ¬ (uE s (i + z) 1 = 0 ∧ uV s (i + z) 1 = 0)) : gz s i = z := by
  unfold gz; rw [zr_of h (by omega)]
  obtain ⟨d, hd⟩ : ∃ d, 32 - z = d + 1 := ⟨32 - z - 1, by omega⟩
  rw [hd]
  show (if _ then _ else _) + z = z
  rw [if_neg hs]; omega

theorem uE_one {s : ByteArray} {i : Nat} : uE s i 1 = 0 ↔ i < 8 * s.size := by
  unfold uE; rw [if_neg (by omega)]; split <;> omega
theorem uE_one5 {s : ByteArray} {i : Nat} (h : ¬ uE s i 1 = 0) : uE s i 1 = 5 := by
  unfold uE at h ⊢; rw [if_neg (by omega)] at h ⊢; split <;> simp_all
theorem uE_nat {s : ByteArray} {i n : Nat} (hn : n ≤ 64) : uE s i (n : Int) = if 8 * s.size - i < n then 5 else 0 := by
  unfold uE; rw [if_neg (by omega)]; simp only [Int.ofNat_lt]

/-- What Ue says: its error, its number, where it ends. -/
def ueE (s : ByteArray) (i : Nat) : Int := if gz s i = 32 then 4 else uE s i ((2 * gz s i + 1 : Nat) : Int)
def ueV (s : ByteArray) (i : Nat) : Nat := if ueE s i = 0 then natB (seg (sbits s) i (2 * gz s i + 1)) - 1 else 0
def ueI (s : ByteArray) (i : Nat) : Nat := if ueE s i = 0 then i + (2 * gz s i + 1) else i
/-- How long the code is. -/
def lnE (s : ByteArray) (i : Nat) : Int := if gz s i = 32 then 4 else uE s (i + gz s i) 1
def lnN (s : ByteArray) (i : Nat) : Nat := if lnE s i = 0 then 2 * gz s i + 1 else 0

theorem lnE_form {s : ByteArray} {i : Nat} (h : Zs s i 32) : lnE s i = 4 ∧ lnN s i = 0 := by
  have e := gz_full h
  have e1 : lnE s i = 4 := by unfold lnE; rw [if_pos e]
  exact ⟨e1, by unfold lnN; rw [e1]; rfl⟩
theorem lnE_short {s : ByteArray} {i z : Nat} (h : Zs s i z) (hz : z < 32) (h5 : uE s (i + z) 1 ≠ 0) : lnE s i = uE s (i + z) 1 ∧ lnN s i = 0 := by
  have e := gz_stop h hz (fun c => h5 c.1)
  have e1 : lnE s i = uE s (i + z) 1 := by unfold lnE; rw [e, if_neg (by omega)]
  exact ⟨e1, by unfold lnN; rw [e1, if_neg h5]⟩
theorem lnE_ok {s : ByteArray} {i z : Nat} (h : Zs s i z) (hz : z < 32) (h0 : uE s (i + z) 1 = 0) (h1 : uV s (i + z) 1 ≠ 0) : lnE s i = 0 ∧ lnN s i = 2 * z + 1 := by
  have e := gz_stop h hz (fun c => h1 c.2)
  have e1 : lnE s i = 0 := by unfold lnE; rw [e, if_neg (by omega), h0]
  exact ⟨e1, by unfold lnN; rw [if_pos e1, e]⟩

/-- What the bits at the head are. -/
theorem seg_zeros {s : ByteArray} : ∀ {z i : Nat}, Zs s i z → natB (seg (sbits s) i z) = 0
  | 0, i, _ => by simp [seg, natB]
  | z + 1, i, h => by
    obtain ⟨h1, h2⟩ := h z (by omega)
    have hn := seg_zeros (z := z) (i := i) (fun k hk => h k (by omega))
    rw [uE_one] at h1
    have h3 : natB (seg (sbits s) (i + z) 1) = 0 := by
      unfold uV at h2; rw [if_pos (uE_one.2 h1)] at h2; simpa using h2
    rw [seg_add, natB_append, hn, h3]; simp

theorem lnE_zero_gz {s : ByteArray} {i : Nat} (h : lnE s i = 0) : gz s i < 32 ∧ uE s (i + gz s i) 1 = 0 ∧ uV s (i + gz s i) 1 = 1 := by
  unfold lnE at h
  by_cases c : gz s i = 32
  · rw [if_pos c] at h; simp at h
  · rw [if_neg c] at h
    have hl := gz_le s i
    refine ⟨by omega, h, ?_⟩
    have := zr_end (s := s) (f := 32) (i := i) (by show gz s i < 32; omega)
    have h1 := uV_one_le s (i + gz s i)
    have h2 : uV s (i + gz s i) 1 ≠ 0 := fun c => this ⟨h, c⟩
    omega

theorem seg_head {s : ByteArray} {i : Nat} (h : lnE s i = 0) (n : Nat) (hn : n ≤ gz s i) (hl : i + gz s i + 1 + n ≤ 8 * s.size) :
    natB (seg (sbits s) i (gz s i + 1 + n)) = 2 ^ n + natB (seg (sbits s) (i + gz s i + 1) n) := by
  obtain ⟨h1, h2, h3⟩ := lnE_zero_gz h
  have hz : natB (seg (sbits s) i (gz s i)) = 0 := seg_zeros zr_zs
  have h4 : natB (seg (sbits s) (i + gz s i) 1) = 1 := by unfold uV at h3; rw [if_pos h2] at h3; simpa using h3
  rw [seg_add, natB_append, seg_add, natB_append, hz, h4, seg_length (by rw [sbits_length]; omega), seg_length (by rw [sbits_length]; omega)]
  simp [Nat.add_assoc]

theorem ueE_of {s : ByteArray} {i : Nat} : ueE s i = if lnE s i = 0 then uE s i ((2 * gz s i + 1 : Nat) : Int) else lnE s i := by
  unfold ueE lnE
  by_cases c : gz s i = 32
  · simp [c]
  · rw [if_neg c, if_neg c]
    have hl := gz_le s i
    by_cases h : uE s (i + gz s i) 1 = 0
    · rw [if_pos h]
    · rw [if_neg h, uE_one5 h, uE_nat (by omega), if_pos]
      rw [uE_one] at h; omega
theorem ueE_not {s : ByteArray} {i : Nat} (h : lnE s i ≠ 0) : ueE s i = lnE s i ∧ ueV s i = 0 ∧ ueI s i = i := by
  have e : ueE s i = lnE s i := by rw [ueE_of, if_neg h]
  exact ⟨e, by unfold ueV; rw [e, if_neg h], by unfold ueI; rw [e, if_neg h]⟩
theorem ueE_yes {s : ByteArray} {i : Nat} (h : lnE s i = 0) : ueE s i = uE s i (lnN s i : Int) ∧ ueI s i = uI s i (lnN s i : Int) ∧ (uE s i (lnN s i : Int) = 0 → ueV s i = uV s i (lnN s i : Int) - 1 ∧ 1 ≤ uV s i (lnN s i : Int)) ∧ (uE s i (lnN s i : Int) ≠ 0 → ueV s i = 0) := by
  have hn : lnN s i = 2 * gz s i + 1 := by unfold lnN; rw [if_pos h]
  have e : ueE s i = uE s i (lnN s i : Int) := by rw [ueE_of, if_pos h, hn]
  refine ⟨e, ?_, ?_, ?_⟩
  · unfold ueI uI; rw [e, hn]; rfl
  · intro h0
    have h1 : uV s i (lnN s i : Int) = natB (seg (sbits s) i (2 * gz s i + 1)) := by unfold uV; rw [if_pos h0, hn]; rfl
    refine ⟨by rw [h1]; unfold ueV; rw [e, if_pos h0], ?_⟩
    obtain ⟨h32, _, _⟩ := lnE_zero_gz h
    rw [hn, uE_nat (by omega)] at h0
    have hl : i + (2 * gz s i + 1) ≤ 8 * s.size := by
      by_cases c : 8 * s.size - i < 2 * gz s i + 1
      · rw [if_pos c] at h0; simp at h0
      · omega
    rw [h1, show 2 * gz s i + 1 = gz s i + 1 + gz s i by omega, seg_head h _ (Nat.le_refl _) (by omega)]
    have := Nat.one_le_two_pow (n := gz s i)
    omega
  · intro h0
    unfold ueV; rw [e, if_neg h0]
/-- The reference's way: the zeros and the bit 1, then as many bits as zeros. -/
theorem ueE_ref {s : ByteArray} {i : Nat} (h : lnE s i = 0) (hi : i + gz s i + 1 ≤ 8 * s.size) : ueE s i = uE s (i + gz s i + 1) (gz s i : Int) ∧ (ueE s i = 0 → uI s (i + gz s i + 1) (gz s i : Int) = ueI s i ∧ ueV s i = 2 ^ gz s i + uV s (i + gz s i + 1) (gz s i : Int) - 1) := by
  obtain ⟨h32, h1, _⟩ := lnE_zero_gz h
  have e : ueE s i = uE s (i + gz s i + 1) (gz s i : Int) := by
    rw [ueE_of, if_pos h, uE_nat (by omega), uE_nat (by omega)]
    by_cases c : 8 * s.size - i < 2 * gz s i + 1
    · rw [if_pos c, if_pos (by omega)]
    · rw [if_neg c, if_neg (by omega)]
  refine ⟨e, fun h0 => ?_⟩
  have h0' := h0
  rw [e] at h0
  have hc : 8 * s.size - (i + gz s i + 1) ≥ gz s i := by
    rw [uE_nat (by omega)] at h0
    by_cases c : 8 * s.size - (i + gz s i + 1) < gz s i
    · rw [if_pos c] at h0; simp at h0
    · omega
  refine ⟨by unfold uI ueI; rw [if_pos h0, if_pos h0']; simp; omega, ?_⟩
  unfold ueV uV
  rw [if_pos h0', if_pos h0, show 2 * gz s i + 1 = gz s i + 1 + gz s i by omega, seg_head h _ (Nat.le_refl _) (by omega)]
  simp
theorem ueI_le {s : ByteArray} {i : Nat} (h : i ≤ 8 * s.size) : ueI s i ≤ 8 * s.size := by
  unfold ueI
  by_cases c : ueE s i = 0
  · rw [if_pos c]
    unfold ueE at c
    have hl := gz_le s i
    by_cases c2 : gz s i = 32
    · rw [if_pos c2] at c; simp at c
    · rw [if_neg c2, uE_nat (by omega)] at c
      by_cases c3 : 8 * s.size - i < 2 * gz s i + 1
      · rw [if_pos c3] at c; simp at c
      · omega
  · rw [if_neg c]; exact h
theorem uV_lt {s : ByteArray} {i : Nat} {n : Int} : uV s i n < 2 ^ n.toNat := by
  unfold uV
  split
  · have := natB_lt (seg (sbits s) i n.toNat)
    have h2 : (seg (sbits s) i n.toNat).length ≤ n.toNat := by simp [seg]; omega
    exact Nat.lt_of_lt_of_le this (Nat.pow_le_pow_right (by omega) h2)
  · exact Nat.two_pow_pos _
theorem ueV_lt (s : ByteArray) (i : Nat) : ueV s i < 4294967295 := by
  unfold ueV
  by_cases c : ueE s i = 0
  · rw [if_pos c]
    have h0 : lnE s i = 0 := by
      by_cases h : lnE s i = 0
      · exact h
      · exact absurd ((ueE_not h).1.symm.trans c) h
    obtain ⟨h32, h1, _⟩ := lnE_zero_gz h0
    have hl : i + (2 * gz s i + 1) ≤ 8 * s.size := by
      unfold ueE at c
      rw [if_neg (by omega), uE_nat (by omega)] at c
      by_cases c3 : 8 * s.size - i < 2 * gz s i + 1
      · rw [if_pos c3] at c; simp at c
      · rw [uE_one] at h1; omega
    rw [show 2 * gz s i + 1 = gz s i + 1 + gz s i by omega, seg_head h0 _ (Nat.le_refl _) (by omega)]
    have hb := natB_lt (seg (sbits s) (i + gz s i + 1) (gz s i))
    rw [seg_length (by rw [sbits_length]; omega)] at hb
    have hp : 2 ^ gz s i ≤ 2 ^ 31 := Nat.pow_le_pow_right (by omega) (by omega)
    have e31 : (2 : Nat) ^ 31 = 2147483648 := by decide
    omega
  · rw [if_neg c]; omega

/-- The code of a number. -/
def ueN (v : Nat) : Nat := Nat.log2 (v + 1)
def ueB (v : Nat) : List Bool := bitsN (2 * ueN v + 1) (v + 1)
def pueE (v : Nat) : Int := if 4294967294 < v then 3 else 0
def pueB (B : List Bool) (v : Nat) : List Bool := if pueE v = 0 then B ++ ueB v else B
def seN (v : Int) : Nat := if 0 < v then (2 * v - 1).toNat else (-2 * v).toNat
def pseE (v : Int) : Int := if v < -2147483647 ∨ 2147483647 < v then 3 else 0
def pseB (B : List Bool) (v : Int) : List Bool := if pseE v = 0 then B ++ ueB (seN v) else B
def teB (m v : Nat) : List Bool := if m = 0 then [] else if m = 1 then bitsN 1 (1 - v) else ueB v
def pteE (m v : Nat) : Int := if 4294967294 < m ∨ m < v then 3 else 0
def pteB (B : List Bool) (m v : Nat) : List Bool := if pteE m v = 0 then B ++ teB m v else B
def ukB (k v : Nat) : List Bool := ueB (v / 2 ^ k) ++ bitsN k (v % 2 ^ k)
def pukE (k : Int) (v : Nat) : Int := if k < 0 ∨ 8 < k ∨ 4294967294 < v / 2 ^ k.toNat then 3 else 0
def pukB (B : List Bool) (k : Int) (v : Nat) : List Bool := if pukE k v = 0 then B ++ ukB k.toNat v else B
/-- What the readers of the other codes say. -/
def seV (s : ByteArray) (i : Nat) : Int := if ueV s i % 2 = 1 then (ueV s i / 2 + 1 : Nat) else -(ueV s i / 2 : Nat)
def teE (s : ByteArray) (i m : Nat) : Int := if 4294967294 < m then 3 else if m = 0 then 0 else if m = 1 then uE s i 1 else if ueE s i = 0 then (if m < ueV s i then 3 else 0) else ueE s i
def teV (s : ByteArray) (i m : Nat) : Nat := if teE s i m = 0 then (if m = 0 then 0 else if m = 1 then 1 - uV s i 1 else ueV s i) else 0
def teI (s : ByteArray) (i m : Nat) : Nat := if teE s i m = 0 then (if m = 0 then i else if m = 1 then uI s i 1 else ueI s i) else i
def ukE (s : ByteArray) (i : Nat) (k : Int) : Int := if k < 0 ∨ 8 < k then 3 else if ueE s i = 0 then uE s (ueI s i) k else ueE s i
def ukV (s : ByteArray) (i : Nat) (k : Int) : Nat := if ukE s i k = 0 then ueV s i * 2 ^ k.toNat + uV s (ueI s i) k else 0
def ukI (s : ByteArray) (i : Nat) (k : Int) : Nat := if ukE s i k = 0 then uI s (ueI s i) k else i

theorem ueN_bounds (v : Nat) : 2 ^ ueN v ≤ v + 1 ∧ v + 1 < 2 ^ (ueN v + 1) := ⟨Nat.log2_self_le (by omega), Nat.lt_log2_self⟩
theorem ueN_of {v n : Nat} (h1 : 2 ^ n ≤ v + 1) (h2 : v + 1 < 2 ^ (n + 1)) : ueN v = n := by
  obtain ⟨g1, g2⟩ := ueN_bounds v
  have a : n < ueN v + 1 := (Nat.pow_lt_pow_iff_right (by omega)).1 (Nat.lt_of_le_of_lt h1 g2)
  have b : ueN v < n + 1 := (Nat.pow_lt_pow_iff_right (by omega)).1 (Nat.lt_of_le_of_lt g1 h2)
  omega
theorem ueN_le {v : Nat} (h : v ≤ 4294967294) : ueN v ≤ 31 := by
  obtain ⟨g1, g2⟩ := ueN_bounds v
  have e : (2 : Nat) ^ 32 = 4294967296 := by decide
  have b : ueN v < 32 := (Nat.pow_lt_pow_iff_right (a := 2) (by omega)).1 (by omega)
  omega
theorem ueB_length (v : Nat) : (ueB v).length = 2 * ueN v + 1 := by unfold ueB; rw [bitsN_length]
theorem ueB_lt (v : Nat) : v + 1 < 2 ^ (2 * ueN v + 1) := Nat.lt_of_lt_of_le (ueN_bounds v).2 (Nat.pow_le_pow_right (by omega) (by omega))
theorem bitLen_ue {v : Nat} (h : v ≤ 4294967294) : Lib.bitLen (v + 1) = ueN v + 1 := by
  have e64 : (2 : Nat) ^ 64 = 18446744073709551616 := by decide
  obtain ⟨h1, h2, h3⟩ := Lib.bitLenAux_bounds 64 (v + 1) (by omega) (by omega)
  obtain ⟨n, hn⟩ : ∃ n, Lib.bitLenAux 64 (v + 1) = n + 1 := ⟨Lib.bitLenAux 64 (v + 1) - 1, by omega⟩
  rw [hn] at h2 h3
  show Lib.bitLenAux 64 (v + 1) = _
  rw [hn, ueN_of (n := n) (by simpa using h2) h3]

end Go.Proofs.Ytkaoeilijdeioaa
