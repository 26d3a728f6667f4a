/- Levels as plain facts: no program in sight. -/
import Derived.Test.YtmlkkeabgnhhnaaAs
namespace Go.Proofs.Ytmlkkeabgnhhnaa
open Go.RowKit
set_option linter.unusedVariables false
set_option maxRecDepth 100000
set_option linter.unusedSimpArgs false

/-- How many bits 0 stand at place i, at most f. -/
def zr (s : ByteArray) : Nat → Nat → Nat
  | _, 0 => 0
  | i, f + 1 => if uE s i 1 = 0 ∧ uV s i 1 = 0 then zr s (i + 1) f + 1 else 0
/-- At place i stand z bits 0. -/
def Zs (s : ByteArray) (i z : Nat) : Prop := ∀ k, k < z → uE s (i + k) 1 = 0 ∧ uV s (i + k) 1 = 0

theorem Zs.zero (s : ByteArray) (i : Nat) : Zs s i 0 := fun k hk => absurd hk (by omega)
theorem Zs.next {s : ByteArray} {i z : Nat} (h : Zs s i z) (h1 : uE s (i + z) 1 = 0) (h2 : uV s (i + z) 1 = 0) : Zs s i (z + 1) := fun k hk => by
  by_cases e : k = z
  · exact e ▸ ⟨h1, h2⟩
  · exact h k (by omega)

theorem zr_succ (s : ByteArray) (i f : Nat) : zr s i (f + 1) = if uE s i 1 = 0 ∧ uV s i 1 = 0 then zr s (i + 1) f + 1 else 0 := rfl
theorem zr_le (s : ByteArray) : ∀ f i, zr s i f ≤ f
  | 0, i => Nat.le_refl _
  | f + 1, i => by
    unfold zr
    split
    · have := zr_le s f (i + 1); omega
    · omega
theorem zr_of {s : ByteArray} : ∀ {z i f : Nat}, Zs s i z → z ≤ f → zr s i f = zr s (i + z) (f - z) + z
  | 0, i, f, _, _ => by simp
  | z + 1, i, 0, _, hf => by omega
  | z + 1, i, f + 1, h, hf => by
    have h0 := h 0 (by omega)
    rw [Nat.add_zero] at h0
    have hn : Zs s (i + 1) z := fun k hk => by have := h (k + 1) (by omega); rwa [show i + (k + 1) = i + 1 + k by omega] at this
    have e := zr_of (f := f) hn (by omega)
    rw [zr_succ, if_pos h0, e, show i + 1 + z = i + (z + 1) by omega, show f + 1 - (z + 1) = f - z by omega]
    omega
theorem zr_zs {s : ByteArray} : ∀ {f i : Nat}, Zs s i (zr s i f)
  | 0, i => Zs.zero s i
  | f + 1, i => by
    rw [zr_succ]
    split
    · rename_i h
      intro k hk
      cases k with
      | zero => exact h
      | succ k => have := zr_zs (s := s) (f := f) (i := i + 1) k (by omega); rwa [show i + 1 + k = i + (k + 1) by omega] at this
    · exact Zs.zero s i
theorem zr_end {s : ByteArray} : ∀ {f i : Nat}, zr s i f < f → ¬ (uE s (i + zr s i f) 1 = 0 ∧ uV s (i + zr s i f) 1 = 0)
  | 0, i, h => by omega
  | f + 1, i, h => by
    by_cases c : uE s i 1 = 0 ∧ uV s i 1 = 0
    · have e : zr s i (f + 1) = zr s (i + 1) f + 1 := by show (if _ then _ else _) = _; rw [if_pos c]
      rw [e] at h ⊢
      have := zr_end (s := s) (f := f) (i := i + 1) (by omega)
      rwa [show i + 1 + zr s (i + 1) f = i + (zr s (i + 1) f + 1) by omega] at this
    · have e : zr s i (f + 1) = 0 := by show (if _ then _ else _) = _; rw [if_neg c]
      rw [e]; exact c

theorem uE_one {s : ByteArray} {i : Nat} : uE s i 1 = 0 ↔ i < 8 * s.size := by
  unfold uE; rw [if_neg (by omega)]; split <;> omega
theorem uE_one5 {s : ByteArray} {i : Nat} (h : ¬ uE s i 1 = 0) : uE s i 1 = 5 := by
  unfold uE at h ⊢; rw [if_neg (by omega)] at h ⊢; split <;> simp_all
theorem uE_nat {s : ByteArray} {i n : Nat} (hn : n ≤ 64) : uE s i (n : Int) = if 8 * s.size - i < n then 5 else 0 := by
  unfold uE; rw [if_neg (by omega)]; simp only [Int.ofNat_lt]

/-- The first number with the greatest prefix; the greatest number; the length after a level of size m. -/
def esc (k : Nat) : Nat := if k = 0 then 30 else 15 * 2 ^ k
def mst (k : Nat) : Nat := esc k + 4095
def nxt (k m : Nat) : Nat := if 3 * 2 ^ (max k 1 - 1) < m ∧ max k 1 < 6 then max k 1 + 1 else max k 1
/-- Prefix, suffix and its bits of a number. -/
def cP (k c : Nat) : Nat := if esc k ≤ c then 15 else if 0 < k then c / 2 ^ k else if 14 ≤ c then 14 else c
def cV (k c : Nat) : Nat := if esc k ≤ c then c - esc k else if 0 < k then c % 2 ^ k else if 14 ≤ c then c - 14 else 0
def cN (k c : Nat) : Nat := if esc k ≤ c then 12 else if 0 < k then k else if 14 ≤ c then 4 else 0
theorem seven {P : Nat → Prop} (h0 : P 0) (h1 : P 1) (h2 : P 2) (h3 : P 3) (h4 : P 4) (h5 : P 5) (h6 : P 6) {k : Nat} (hk : k ≤ 6) : P k := by
  have : k = 0 ∨ k = 1 ∨ k = 2 ∨ k = 3 ∨ k = 4 ∨ k = 5 ∨ k = 6 := by omega
  rcases this with rfl | rfl | rfl | rfl | rfl | rfl | rfl <;> assumption
theorem nxt_le (k m : Nat) (hk : k ≤ 6) : nxt k m ≤ 6 := by unfold nxt; split <;> omega
theorem esc_le (k : Nat) (hk : k ≤ 6) : 30 ≤ esc k ∧ esc k ≤ 960 := by
  refine seven (P := fun k => 30 ≤ esc k ∧ esc k ≤ 960) ?_ ?_ ?_ ?_ ?_ ?_ ?_ hk <;> decide
/-- The number of a level. -/
def lnum (v : Int) : Nat := 2 * (v.natAbs - 1) + if v < 0 then 1 else 0
/-- What Put says of a level: k the length, l the levels left, sk how much less. -/
def lpE (k l sk : Nat) (v : Int) : Int := if l = 0 then 8 else if v = 0 ∨ (0 < sk ∧ v.natAbs = 1) then 2 else if mst k + sk < lnum v then 12 else 0
def lcode (k c : Nat) : List Bool := bitsN (cP k c + 1) 1 ++ bitsN (cN k c) (cV k c)
def lmost (k l sk : Nat) : Nat := if l = 0 then 0 else (mst k + sk) / 2 + 1

theorem put_fit {B : List Bool} {N V : Nat} (hn : N ≤ 64) (hv : V < 2 ^ N) : pE (N : Int) V = 0 ∧ pB B (N : Int) V = B ++ bitsN N V := by
  have e : pE (N : Int) V = 0 := by
    unfold pE
    rw [if_neg (by omega), if_neg]
    rintro ⟨_, h⟩
    simp at h
    omega
  exact ⟨e, by unfold pB; rw [if_pos e]; simp⟩
theorem code_ok {k c : Nat} (hk : k ≤ 6) (hc : c ≤ mst k) : cP k c ≤ 15 ∧ cV k c < 2 ^ cN k c ∧ cN k c ≤ 12 ∧ cV k c ≤ 4095 := by
  revert hc
  refine seven (P := fun k => c ≤ mst k → cP k c ≤ 15 ∧ cV k c < 2 ^ cN k c ∧ cN k c ≤ 12 ∧ cV k c ≤ 4095) ?_ ?_ ?_ ?_ ?_ ?_ ?_ hk
  all_goals
    intro hc
    unfold cP cV cN
    simp [mst, esc] at hc ⊢
    (repeat' split) <;> simp <;> omega

end Go.Proofs.Ytmlkkeabgnhhnaa
