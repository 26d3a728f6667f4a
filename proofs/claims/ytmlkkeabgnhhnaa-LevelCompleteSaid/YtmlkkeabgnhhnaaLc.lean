/- What is read is written back: plain facts on levels. -/
import Derived.Test.YtmlkkeabgnhhnaaLb
namespace Go.Proofs.Ytmlkkeabgnhhnaa
open Go.RowKit
set_option linter.unusedVariables false
set_option maxRecDepth 100000
set_option linter.unusedSimpArgs false

theorem seg_zeros {s : ByteArray} : ∀ {z i : Nat}, Zs s i z → natB (seg (sbits s) i z) = 0
  | 0, i, _ => by simp [seg, natB]
  | z + 1, i, h => by
    obtain ⟨h1, h2⟩ := h z (by omega)
    have hn := seg_zeros (z := z) (i := i) (fun k hk => h k (by omega))
    rw [uE_one] at h1
    have h3 : natB (seg (sbits s) (i + z) 1) = 0 := by
      unfold uV at h2; rw [if_pos (uE_one.2 h1)] at h2; simpa using h2
    rw [seg_add, natB_append, hn, h3]; simp
theorem seg_seg {S : List Bool} {n c k : Nat} (h : c + k ≤ n) : seg (seg S 0 n) c k = seg S c k := by
  simp only [seg, List.drop_zero, List.drop_take, List.take_take]
  rw [Nat.min_eq_left (by omega)]
theorem pre_bits {s : ByteArray} {B : List Bool} {c : Nat} (hB : B = seg (sbits s) 0 B.length) (hl : B.length ≤ 8 * s.size) (hc : c < B.length) :
    uE s c 1 = 0 ∧ uE (pstr B) c 1 = 0 ∧ uV s c 1 = uV (pstr B) c 1 := by
  have e1 : uE s c 1 = 0 := uE_one.2 (by omega)
  have e2 : uE (pstr B) c 1 = 0 := uE_one.2 (by rw [pstr_size]; omega)
  refine ⟨e1, e2, ?_⟩
  unfold uV
  rw [if_pos e1, if_pos e2, sbits_pstr]
  show natB (seg (sbits s) c 1) = natB (seg (B ++ _) c 1)
  rw [seg_append_left (by omega)]
  conv => rhs; rw [hB]
  rw [seg_seg (by omega)]

theorem nS_lt {K P V : Nat} (hK : K ≤ 6) (hP : P ≤ 15) (hV : V < 2 ^ nS K P) : bS K P + V ≤ mst K ∧ cP K (bS K P + V) = P ∧ cV K (bS K P + V) = V ∧ cN K (bS K P + V) = nS K P := by
  by_cases h15 : P = 15
  · subst h15
    have e : nS K 15 = 12 := rfl
    have e2 : bS K 15 = esc K := rfl
    rw [e] at hV ⊢
    rw [e2]
    have hV' : V < 4096 := hV
    unfold cP cV cN mst
    rw [if_pos (by omega), if_pos (by omega), if_pos (by omega)]
    omega
  · have e2 : bS K P = if 0 < K then P * 2 ^ K else P := by unfold bS; rw [if_neg h15]
    have e1 : nS K P = if 0 < K then K else if P = 14 then 4 else 0 := by unfold nS; rw [if_neg h15]
    rw [e1] at hV ⊢
    rw [e2]
    revert hV
    refine seven (P := fun K => V < 2 ^ (if 0 < K then K else if P = 14 then 4 else 0) → (if 0 < K then P * 2 ^ K else P) + V ≤ mst K ∧ cP K ((if 0 < K then P * 2 ^ K else P) + V) = P ∧ cV K ((if 0 < K then P * 2 ^ K else P) + V) = V ∧ cN K ((if 0 < K then P * 2 ^ K else P) + V) = if 0 < K then K else if P = 14 then 4 else 0) ?_ ?_ ?_ ?_ ?_ ?_ ?_ hK
    · intro hV
      by_cases h14 : P = 14
      · subst h14
        simp at hV
        unfold cP cV cN
        simp [mst, esc]
        (repeat' split) <;> omega
      · simp [h14] at hV
        subst hV
        unfold cP cV cN
        simp [mst, esc, h14]
        (repeat' split) <;> omega
    all_goals
      intro hV
      simp at hV
      unfold cP cV cN
      simp [mst, esc]
      (repeat' split) <;> omega
theorem lnum_lvl (n : Nat) : lnum (lvl n) = n ∧ lvl n ≠ 0 ∧ (lvl n).natAbs = n / 2 + 1 := by
  unfold lnum lvl
  by_cases h : n % 2 = 1
  · rw [if_pos h, if_pos (by omega)]; omega
  · rw [if_neg h, if_neg (by omega)]; omega
theorem seg_uV {s : ByteArray} {i n : Nat} (hn : n ≤ 64) (h : uE s i (n : Int) = 0) : seg (sbits s) i n = bitsN n (uV s i (n : Int)) ∧ i + n ≤ 8 * s.size ∨ n = 0 := by
  by_cases h0 : n = 0
  · exact Or.inr h0
  left
  rw [uE_nat hn] at h
  have hl : i + n ≤ 8 * s.size := by split at h <;> omega
  refine ⟨?_, hl⟩
  have e : uE s i (n : Int) = 0 := by rw [uE_nat hn, if_neg (by omega)]
  unfold uV
  rw [if_pos e]
  have := bitsN_natB (seg (sbits s) i n)
  rw [seg_length (by rw [sbits_length]; exact hl)] at this
  exact this.symm
theorem seg_uV' {s : ByteArray} {i n : Nat} (hn : n ≤ 64) (h : uE s i (n : Int) = 0) : seg (sbits s) i n = bitsN n (uV s i (n : Int)) := by
  rcases seg_uV hn h with h | rfl
  · exact h.1
  · simp [bitsN]
theorem gL_le (s : ByteArray) (i : Nat) : gL s i ≤ 16 := zr_le s 16 i
theorem bitsN_zero_of {s : ByteArray} {i P : Nat} (hl : i + P ≤ 8 * s.size) (h : natB (seg (sbits s) i P) = 0) : seg (sbits s) i P = List.replicate P false := by
  have := bitsN_natB (seg (sbits s) i P)
  rw [seg_length (by rw [sbits_length]; exact hl), h, bitsN_zero] at this
  exact this.symm
/-- What is read is written with the bits that were read. -/
theorem lread_fwd {s : ByteArray} {i K l sk : Nat} (hK : K ≤ 6) (hsk : sk = 0 ∨ sk = 2) (hE : lrE K l s i = 0) :
    ∃ v, lrV K l sk s i = v ∧ v ≠ 0 ∧ -9223372036854775808 ≤ v ∧ v < 9223372036854775808 ∧ lpE K l sk v = 0 ∧ lrI K l s i = i + (lcode K (lnum v - sk)).length ∧ seg (sbits s) i (lcode K (lnum v - sk)).length = lcode K (lnum v - sk) ∧ i + (lcode K (lnum v - sk)).length ≤ 8 * s.size ∧ lrK K l sk s i = lpK K l sk v ∧ lrL K l s i = lpL K l sk v ∧ lrS K l sk s i = lpS K l sk v := by
  have hE' := hE
  unfold lrE at hE'
  by_cases h1 : l = 0
  · rw [if_pos h1] at hE'; omega
  rw [if_neg h1] at hE'
  by_cases h2 : gL s i = 16
  · rw [if_pos h2] at hE'; omega
  rw [if_neg h2] at hE'
  by_cases h3 : uE s (i + gL s i) 1 ≠ 0
  · rw [if_pos h3] at hE'; omega
  rw [if_neg h3] at hE'
  have h3' : uE s (i + gL s i) 1 = 0 := by omega
  have hP : gL s i ≤ 15 := by have := gL_le s i; omega
  have hz : Zs s i (gL s i) := zr_zs
  have hV1 : uV s (i + gL s i) 1 = 1 := by
    have := zr_end (s := s) (f := 16) (i := i) (by show gL s i < 16; omega)
    have h4 : ¬ (uE s (i + gL s i) 1 = 0 ∧ uV s (i + gL s i) 1 = 0) := this
    have := uV_one (s := s) (i := i + gL s i)
    omega
  obtain ⟨P, hPe⟩ : ∃ P, gL s i = P := ⟨_, rfl⟩
  rw [hPe] at hE' h3' hP hz hV1
  obtain ⟨V, hVe⟩ : ∃ V, uV s (i + P + 1) (nS K P : Int) = V := ⟨_, rfl⟩
  have hn12 := nS_le (K := K) (P := P) hK
  have hVl : V < 2 ^ nS K P := by
    rw [← hVe]
    unfold uV
    rw [if_pos hE']
    have h := natB_lt (seg (sbits s) (i + P + 1) (nS K P : Int).toNat)
    have hl : (seg (sbits s) (i + P + 1) (nS K P : Int).toNat).length ≤ nS K P := by unfold seg; simp; omega
    exact Nat.lt_of_lt_of_le h (Nat.pow_le_pow_right (by omega) hl)
  obtain ⟨q1, q2, q3, q4⟩ := nS_lt hK hP hVl
  have hN : lrN K sk s i = bS K P + V + sk := by unfold lrN; rw [hPe, hVe]
  obtain ⟨n1, n2, n3⟩ := lnum_lvl (bS K P + V + sk)
  have hv : lrV K l sk s i = lvl (bS K P + V + sk) := by unfold lrV; rw [if_pos hE, hN]
  obtain ⟨v, hve⟩ : ∃ v, lvl (bS K P + V + sk) = v := ⟨_, rfl⟩
  rw [hve] at hv n1 n2 n3
  have hc : lnum v - sk = bS K P + V := by omega
  have hlE : lpE K l sk v = 0 := by
    unfold lpE
    rw [if_neg h1, if_neg, if_neg (by omega)]
    rintro (h | ⟨ha, hb⟩)
    · exact n2 h
    · omega
  have hm : mst K ≤ 6000 := by have := (esc_le K hK).2; unfold mst; omega
  have hlen : (lcode K (lnum v - sk)).length = P + 1 + nS K P := by unfold lcode; rw [List.length_append, bitsN_length, bitsN_length, hc, q2, q4]
  have hl8 : i + P + 1 + nS K P ≤ 8 * s.size := by
    have h5 := uE_one.1 h3'
    have := hE'
    rw [uE_nat (by omega)] at this
    split at this <;> omega
  refine ⟨v, hv, n2, by omega, by omega, hlE, ?_, ?_, by omega, ?_, ?_, ?_⟩
  · rw [hlen]; unfold lrI; rw [if_pos hE, hPe]; omega
  · rw [hlen]
    unfold lcode
    rw [hc, q2, q3, q4, seg_add, seg_add, show i + (P + 1) = i + P + 1 by omega, seg_uV' (by omega) hE', hVe, seg_uV' (n := 1) (by omega) h3', show uV s (i + P) ((1 : Nat) : Int) = 1 from hV1, bitsN_one P, bitsN_zero_of (by omega) (seg_zeros hz)]
    rfl
  · unfold lrK lpK; rw [if_pos hE, if_pos hlE, hN, n3]
  · unfold lrL lpL; rw [if_pos hE, if_pos hlE]
  · unfold lrS lpS; rw [if_pos hE, if_pos hlE]
/-- When a level ends too early, few bits are left. -/
theorem lrE_five {s : ByteArray} {i K l : Nat} (hK : K ≤ 6) (hE : lrE K l s i = 5) : 8 * s.size - i ≤ 27 := by
  unfold lrE at hE
  by_cases h1 : l = 0
  · rw [if_pos h1] at hE; omega
  rw [if_neg h1] at hE
  by_cases h2 : gL s i = 16
  · rw [if_pos h2] at hE; omega
  rw [if_neg h2] at hE
  have hP := gL_le s i
  by_cases h3 : uE s (i + gL s i) 1 ≠ 0
  · have := uE_one (s := s) (i := i + gL s i)
    omega
  rw [if_neg h3] at hE
  have hn12 := nS_le (K := K) (P := gL s i) hK
  rw [uE_nat (by omega)] at hE
  split at hE <;> omega

end Go.Proofs.Ytmlkkeabgnhhnaa
