/- Plain law of PpsCabac: each of three fields turns one bit. -/
import Derived.Test.YtkaoeilijdeioaaYs
import Derived.Lib.BitFns
namespace Go.Proofs.Ytkaoeilijdeioaa
open Go.RowKit
set_option linter.unusedVariables false
set_option maxRecDepth 100000
set_option linter.unusedSimpArgs false

theorem bitsN_get : ∀ (n v j : Nat), j < n → (bitsN n v)[j]? = some (v.testBit (n - 1 - j))
  | 0, v, j, h => by omega
  | n + 1, v, j, h => by
    rw [bitsN]
    by_cases c : j < n
    · rw [List.getElem?_append_left (by rw [bitsN_length]; exact c), bitsN_get n (v / 2) j c]
      rw [show n + 1 - 1 - j = (n - 1 - j) + 1 by omega, Nat.testBit_succ]
    · have : j = n := by omega
      subst this
      rw [List.getElem?_append_right (by rw [bitsN_length]; omega), bitsN_length, Nat.sub_self]
      rw [show j + 1 - 1 - j = 0 by omega, Nat.testBit_zero]
      rfl
theorem byte_get {s : ByteArray} {i : Nat} (h : i < s.size) {m : Nat} (hm : m < 8) : (sbits s)[8 * i + m]? = some ((s[i]'h).toNat.testBit (7 - m)) := by
  have e := seg_sbits_byte s i h 0 8 (by omega)
  have e2 : seg (bitsN 8 (s[i]'h).toNat) 0 8 = bitsN 8 (s[i]'h).toNat := by
    unfold seg
    rw [List.drop_zero, List.take_of_length_le (by rw [bitsN_length]; omega)]
  rw [e2, Nat.add_zero] at e
  have e3 := bitsN_get 8 (s[i]'h).toNat m hm
  rw [← e] at e3
  unfold seg at e3
  rw [List.getElem?_take_of_lt hm, List.getElem?_drop] at e3
  exact e3
/-- T is S with the bit at p turned. -/
structure OneBit (S T : ByteArray) (p : Nat) : Prop where
  size : T.size = S.size
  lt : p / 8 < S.size
  same : ∀ i (h1 : i < S.size) (h2 : i < T.size), i ≠ p / 8 → (S[i]'h1).toNat = (T[i]'h2).toNat
  one : ∀ i (h1 : i < S.size) (h2 : i < T.size), i = p / 8 → (S[i]'h1).toNat ^^^ (T[i]'h2).toNat = 2 ^ (7 - p % 8)
theorem byte_high (c : UInt8) {k : Nat} (h : 8 ≤ k) : c.toNat.testBit k = false :=
  Nat.testBit_lt_two_pow (Nat.lt_of_lt_of_le (show c.toNat < 2 ^ 8 from UInt8.toNat_lt c) (Nat.pow_le_pow_right (by omega) h))
theorem oneBit_of {S T : ByteArray} {A C : List Bool} {b c : Bool} (hS : sbits S = A ++ b :: C) (hT : sbits T = A ++ c :: C) (hbc : c = !b) : OneBit S T A.length := by
  have lS : 8 * S.size = A.length + (C.length + 1) := by rw [← sbits_length, hS]; simp
  have lT : 8 * T.size = A.length + (C.length + 1) := by rw [← sbits_length, hT]; simp
  have far : ∀ j, j ≠ A.length → (sbits S)[j]? = (sbits T)[j]? := fun j hj => by
    rw [hS, hT]
    by_cases c1 : j < A.length
    · rw [List.getElem?_append_left c1, List.getElem?_append_left c1]
    · rw [List.getElem?_append_right (by omega), List.getElem?_append_right (by omega)]
      obtain ⟨r, hr⟩ : ∃ r, j - A.length = r + 1 := ⟨j - A.length - 1, by omega⟩
      rw [hr, List.getElem?_cons_succ, List.getElem?_cons_succ]
  have nearS : (sbits S)[A.length]? = some b := by rw [hS, List.getElem?_append_right (by omega), Nat.sub_self]; rfl
  have nearT : (sbits T)[A.length]? = some c := by rw [hT, List.getElem?_append_right (by omega), Nat.sub_self]; rfl
  refine ⟨by omega, by omega, fun i h1 h2 hi => ?_, fun i h1 h2 hi => ?_⟩
  · refine Nat.eq_of_testBit_eq fun k => ?_
    by_cases c1 : k < 8
    · have e1 := byte_get h1 (m := 7 - k) (by omega)
      have e2 := byte_get h2 (m := 7 - k) (by omega)
      rw [far _ (by omega), e2] at e1
      rw [show 7 - (7 - k) = k by omega] at e1
      exact (Option.some.inj e1).symm
    · rw [byte_high _ (by omega), byte_high _ (by omega)]
  · refine Nat.eq_of_testBit_eq fun k => ?_
    rw [Nat.testBit_xor, Nat.testBit_two_pow]
    by_cases c1 : k < 8
    · have e1 := byte_get h1 (m := 7 - k) (by omega)
      have e2 := byte_get h2 (m := 7 - k) (by omega)
      rw [show 7 - (7 - k) = k by omega] at e1 e2
      by_cases c2 : 8 * i + (7 - k) = A.length
      · rw [c2, nearS] at e1
        rw [c2, nearT] at e2
        rw [← Option.some.inj e1, ← Option.some.inj e2, hbc]
        rw [decide_eq_true (by omega)]
        cases b <;> rfl
      · rw [far _ c2, e2] at e1
        rw [Option.some.inj e1, Bool.xor_self, decide_eq_false (by omega)]
    · rw [byte_high _ (by omega), byte_high _ (by omega), decide_eq_false (by omega)]
      rfl
theorem bitsN_bool (b : Bool) : bitsN 1 b.toNat = [b] := by cases b <;> rfl
theorem okP_bools {i s : Int} {c c' : Bool} {r r1 q z t : Int} {d d' n n' : Bool} (h : okP ⟨i, s, c, r, r1, q, z, t, d, n⟩ = true) : okP ⟨i, s, c', r, r1, q, z, t, d', n'⟩ = true := h
/-- The places of the three bits, and what their turning does. -/
theorem cabac_law {i s : Int} {c : Bool} {r r1 q z t : Int} {d n : Bool} (h : okP ⟨i, s, c, r, r1, q, z, t, d, n⟩ = true) :
    ∃ p1 p2 p3 : Nat, p1 < p2 ∧ p2 < p3 ∧ OneBit (pPay ⟨i, s, c, r, r1, q, z, t, d, n⟩) (pPay ⟨i, s, !c, r, r1, q, z, t, d, n⟩) p1 ∧ OneBit (pPay ⟨i, s, c, r, r1, q, z, t, d, n⟩) (pPay ⟨i, s, c, r, r1, q, z, t, !d, n⟩) p2 ∧ OneBit (pPay ⟨i, s, c, r, r1, q, z, t, d, n⟩) (pPay ⟨i, s, c, r, r1, q, z, t, d, !n⟩) p3 := by
  obtain ⟨A, hA⟩ : ∃ A, ueB i.toNat ++ ueB s.toNat = A := ⟨_, rfl⟩
  obtain ⟨B, hB⟩ : ∃ B, bitsN 1 0 ++ (ueB 0 ++ (ueB (r - 1).toNat ++ (ueB (r1 - 1).toNat ++ (bitsN 3 0 ++ (ueB (seN q) ++ (ueB (seN z) ++ ueB (seN t))))))) = B := ⟨_, rfl⟩
  have e : ∀ c' d' n' : Bool, ppB ⟨i, s, c', r, r1, q, z, t, d', n'⟩ = A ++ (c' :: (B ++ (d' :: (n' :: bitsN 1 0)))) := fun c' d' n' => by
    unfold ppB pBits
    simp only [bitsN_bool]
    rw [← hA, ← hB]
    simp only [List.append_assoc, List.cons_append, List.nil_append]
  obtain ⟨K, hK⟩ : ∃ K, (A ++ (c :: (B ++ (d :: (n :: bitsN 1 0))))).length = K := ⟨_, rfl⟩
  have eK : ∀ c' d' n' : Bool, (A ++ (c' :: (B ++ (d' :: (n' :: bitsN 1 0))))).length = K := fun c' d' n' => by
    rw [← hK]; simp
  have g : ∀ c' d' n' : Bool, sbits (pPay ⟨i, s, c', r, r1, q, z, t, d', n'⟩) = A ++ (c' :: (B ++ (d' :: (n' :: bitsN 1 0)))) ++ trB K := fun c' d' n' => by
    rw [sbits_ppay (okP_bools h), e, eK]
  refine ⟨A.length, (A ++ c :: B).length, (A ++ c :: (B ++ [d])).length, by simp, by simp, ?_, ?_, ?_⟩
  · refine oneBit_of (b := c) (c := !c) (C := B ++ (d :: (n :: bitsN 1 0)) ++ trB K) ?_ ?_ rfl
    · rw [g]; simp
    · rw [g]; simp
  · refine oneBit_of (b := d) (c := !d) (C := (n :: bitsN 1 0) ++ trB K) ?_ ?_ rfl
    · rw [g]; simp
    · rw [g]; simp
  · refine oneBit_of (b := n) (c := !n) (C := bitsN 1 0 ++ trB K) ?_ ?_ rfl
    · rw [g]; simp
    · rw [g]; simp
/-- The numbers of a byte of which one bit is turned. -/
theorem one_counts {m : Nat} (hm : m < 8) : Lib.onesCount (2 ^ (7 - m)) = 1 ∧ (8 - (Lib.bitLen (2 ^ (7 - m)) : Int)) = (m : Int) := by
  obtain rfl | rfl | rfl | rfl | rfl | rfl | rfl | rfl : m = 0 ∨ m = 1 ∨ m = 2 ∨ m = 3 ∨ m = 4 ∨ m = 5 ∨ m = 6 ∨ m = 7 := by omega
  all_goals exact ⟨by decide +kernel, by decide +kernel⟩
end Go.Proofs.Ytkaoeilijdeioaa
