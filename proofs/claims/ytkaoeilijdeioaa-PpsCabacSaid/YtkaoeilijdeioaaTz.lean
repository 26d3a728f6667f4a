/- Trailing bits as plain facts on bits: no program in sight. -/
import Derived.Test.YtkaoeilijdeioaaQuiet
namespace Go.Proofs.Ytkaoeilijdeioaa
open Go.RowKit
set_option linter.unusedVariables false
set_option maxRecDepth 100000
set_option linter.unusedSimpArgs false

theorem natB_app_zero {a b : List Bool} : natB (a ++ b) = 0 ↔ natB a = 0 ∧ natB b = 0 := by
  rw [natB_append]
  have hp := Nat.two_pow_pos b.length
  constructor
  · intro h
    have h1 : natB a * 2 ^ b.length = 0 := by omega
    rcases Nat.mul_eq_zero.1 h1 with h2 | h2
    · exact ⟨h2, by omega⟩
    · omega
  · rintro ⟨h1, h2⟩; rw [h1, h2]; simp

/-- The m bits from place j on are 0. -/
def zB (s : ByteArray) (j m : Nat) : Bool := decide (natB (seg (sbits s) j m) = 0)
theorem zB_zero (s : ByteArray) (j : Nat) : zB s j 0 = true := by simp [zB, natB]
theorem zB_add (s : ByteArray) (j a b : Nat) : zB s j (a + b) = (zB s j a && zB s (j + a) b) := by
  unfold zB
  rw [seg_add, Bool.eq_iff_iff, Bool.and_eq_true, decide_eq_true_iff, decide_eq_true_iff, decide_eq_true_iff, natB_app_zero]

/-- The bits from place j on. -/
def zR (s : ByteArray) (j : Nat) : Bool := zB s j (8 * s.size - j)
/-- The bit at a place. -/
def bt (s : ByteArray) (j : Nat) : Nat := natB (seg (sbits s) j 1)
theorem bt_le (s : ByteArray) (j : Nat) : bt s j ≤ 1 := seg_one s j
theorem zR_end {s : ByteArray} {j : Nat} (h : 8 * s.size ≤ j) : zR s j = true := by
  unfold zR; rw [show 8 * s.size - j = 0 by omega]; exact zB_zero s j
theorem zR_step {s : ByteArray} {j : Nat} (h : j < 8 * s.size) : zR s j = (decide (bt s j = 0) && zR s (j + 1)) := by
  unfold zR
  rw [show 8 * s.size - j = 1 + (8 * s.size - (j + 1)) by omega, zB_add]
  rfl

/-- What More says. -/
def mrE (s : ByteArray) (i : Nat) : Int := if 8 * s.size ≤ i then 5 else if bt s i = 0 ∧ zR s (i + 1) = true then 5 else 0
def mrV (s : ByteArray) (i : Nat) : Bool := if mrE s i = 0 then (!zR s (i + 1) || decide (bt s i = 0)) else false
/-- What End says. -/
def enG (s : ByteArray) (i : Nat) : Bool := decide (bt s i = 1) && zR s (i + 1)
def enE (s : ByteArray) (i : Nat) (w : Bool) : Int := if 8 * s.size ≤ i then 5 else if enG s i = true ∧ (8 * s.size - i - 1) / 8 % 2 = 0 ∧ (w = false → (8 * s.size - i - 1) / 8 = 0) then 0 else 4
def enI (s : ByteArray) (i : Nat) (w : Bool) : Nat := if enE s i w = 0 then 8 * s.size else i

/-- The place of the last bit 1 from i on below n; n: there is none. -/
def stp (s : ByteArray) (i : Nat) : Nat → Int
  | 0 => -1
  | n + 1 => if n < i then -1 else if bt s n = 1 then (n : Int) else stp s i n

theorem stp_lt (s : ByteArray) (i : Nat) : ∀ n, stp s i n < n
  | 0 => by unfold stp; omega
  | n + 1 => by
    unfold stp
    split
    · omega
    · split
      · omega
      · have := stp_lt s i n; omega
theorem stp_ge (s : ByteArray) (i : Nat) : ∀ n, stp s i n = -1 ∨ (i : Int) ≤ stp s i n
  | 0 => Or.inl rfl
  | n + 1 => by
    unfold stp
    split
    · exact Or.inl rfl
    · split
      · right; omega
      · exact stp_ge s i n
theorem stp_none {s : ByteArray} {i : Nat} : ∀ {n}, i ≤ n → (stp s i n = -1 ↔ zB s i (n - i) = true)
  | 0, h => by
    obtain rfl : i = 0 := by omega
    exact ⟨fun _ => zB_zero s 0, fun _ => rfl⟩
  | n + 1, h => by
    unfold stp
    by_cases c : n < i
    · obtain rfl : i = n + 1 := by omega
      rw [if_pos c, Nat.sub_self]; exact ⟨fun _ => zB_zero s _, fun _ => rfl⟩
    · rw [if_neg c, show n + 1 - i = (n - i) + 1 by omega, zB_add, show i + (n - i) = n by omega]
      have hb := bt_le s n
      by_cases c1 : bt s n = 1
      · rw [if_pos c1]
        have e : zB s n 1 = false := decide_eq_false (fun hc => by have : bt s n = 0 := hc; omega)
        rw [e, Bool.and_false]
        exact ⟨fun hc => by omega, fun hc => by cases hc⟩
      · rw [if_neg c1]
        have e : zB s n 1 = true := decide_eq_true (by show bt s n = 0; omega)
        rw [e, Bool.and_true]
        exact stp_none (by omega)
theorem stp_at {s : ByteArray} {i : Nat} (hi : i < 8 * s.size) (hb : bt s i = 1) : ∀ {n}, i < n → (stp s i n = (i : Int) ↔ zB s (i + 1) (n - (i + 1)) = true)
  | 0, h => by omega
  | n + 1, h => by
    unfold stp
    rw [if_neg (by omega)]
    by_cases c : n = i
    · subst c
      rw [if_pos hb, Nat.sub_self]; exact ⟨fun _ => zB_zero s _, fun _ => rfl⟩
    · rw [show n + 1 - (i + 1) = (n - (i + 1)) + 1 by omega, zB_add, show i + 1 + (n - (i + 1)) = n by omega]
      have hbn := bt_le s n
      by_cases c1 : bt s n = 1
      · rw [if_pos c1]
        have e : zB s n 1 = false := decide_eq_false (fun hc => by have : bt s n = 0 := hc; omega)
        rw [e, Bool.and_false]
        exact ⟨fun hc => by omega, fun hc => by cases hc⟩
      · rw [if_neg c1]
        have e : zB s n 1 = true := decide_eq_true (by show bt s n = 0; omega)
        rw [e, Bool.and_true]
        exact stp_at hi hb (by omega)
theorem stp_not {s : ByteArray} {i : Nat} (hb : bt s i ≠ 1) : ∀ n, stp s i n ≠ (i : Int)
  | 0 => by unfold stp; omega
  | n + 1 => by
    unfold stp
    split
    · omega
    · split
      · rename_i h1 h2
        intro hc
        obtain rfl : n = i := by omega
        exact hb h2
      · exact stp_not hb n

/-- The reference's place against the program's answers. -/
theorem stp_more {s : ByteArray} {i : Nat} (hi : i ≤ 8 * s.size) : (stp s i (8 * s.size) < 0 ↔ mrE s i = 5) ∧ (¬ stp s i (8 * s.size) < 0 → mrE s i = 0 ∧ mrV s i = decide (stp s i (8 * s.size) ≠ (i : Int))) := by
  have hge := stp_ge s i (8 * s.size)
  have hn := stp_none (s := s) hi
  by_cases c : 8 * s.size ≤ i
  · obtain rfl : i = 8 * s.size := by omega
    have e : mrE s (8 * s.size) = 5 := if_pos (Nat.le_refl _)
    rw [Nat.sub_self, zB_zero] at hn
    have := hn.2 rfl
    exact ⟨⟨fun _ => e, fun _ => by omega⟩, fun h => absurd (by omega) h⟩
  · have hs := zR_step (s := s) (j := i) (by omega)
    have hn' : stp s i (8 * s.size) = -1 ↔ zR s i = true := hn
    have hb := bt_le s i
    have hm : mrE s i = if bt s i = 0 ∧ zR s (i + 1) = true then 5 else 0 := by unfold mrE; rw [if_neg c]
    have hlt : stp s i (8 * s.size) < 0 ↔ (bt s i = 0 ∧ zR s (i + 1) = true) := by
      have : stp s i (8 * s.size) < 0 ↔ stp s i (8 * s.size) = -1 := ⟨fun h => by omega, fun h => by omega⟩
      rw [this, hn', hs, Bool.and_eq_true, decide_eq_true_iff]
    refine ⟨by rw [hlt, hm]; by_cases q : bt s i = 0 ∧ zR s (i + 1) = true <;> simp [q], fun h => ?_⟩
    have q : ¬ (bt s i = 0 ∧ zR s (i + 1) = true) := fun hq => h (hlt.2 hq)
    have e0 : mrE s i = 0 := by rw [hm, if_neg q]
    refine ⟨e0, ?_⟩
    unfold mrV
    rw [if_pos e0]
    by_cases c0 : bt s i = 0
    · have hne := stp_not (s := s) (i := i) (by omega) (8 * s.size)
      simp [c0, hne]
    · have h1 : bt s i = 1 := by omega
      have ha := stp_at (s := s) (i := i) (by omega) h1 (n := 8 * s.size) (by omega)
      have ha' : stp s i (8 * s.size) = (i : Int) ↔ zR s (i + 1) = true := ha
      have d0 : decide (bt s i = 0) = false := by simpa using c0
      rw [d0, Bool.or_false]
      by_cases z : zR s (i + 1) = true
      · have := ha'.2 z; simp [z, this]
      · have z' : zR s (i + 1) = false := by simpa using z
        have : stp s i (8 * s.size) ≠ (i : Int) := fun hc => z (ha'.1 hc)
        simp [z', this]
theorem stp_end {s : ByteArray} {i : Nat} (hi : i < 8 * s.size) : stp s i (8 * s.size) = (i : Int) ↔ enG s i = true := by
  unfold enG
  rw [Bool.and_eq_true, decide_eq_true_iff]
  by_cases h1 : bt s i = 1
  · have ha : stp s i (8 * s.size) = (i : Int) ↔ zR s (i + 1) = true := stp_at (s := s) (i := i) (by omega) h1 (n := 8 * s.size) (by omega)
    rw [ha]; exact ⟨fun h => ⟨h1, h⟩, fun h => h.2⟩
  · exact ⟨fun h => absurd h (stp_not h1 _), fun h => absurd h.1 h1⟩

/-- The bits of Trail. -/
def trB (n : Nat) : List Bool := bitsN (8 - n % 8) (2 ^ (7 - n % 8))

end Go.Proofs.Ytkaoeilijdeioaa
