/- What the machine's shifts and masks come to. No program in sight. -/
import Derived.WalkKit
import Derived.Laws.BitsAllLaws
import Derived.Test.YtchoiimmcgkimaaDoorBit
namespace Go.Proofs.YtchoiimmcgkimaaDoor

theorem w_u64 {n : Nat} (h : n < 18446744073709551616) : IntKind.u64.wrap (n : Int) = n := by
  rw [IntKind.wrap_u64]; omega

theorem or_u64 {a c : Nat} (k : Nat) (hc : c < 2 ^ k) (h : a * 2 ^ k + c < 18446744073709551616) :
    bits .or .u64 ((a * 2 ^ k : Nat) : Int) (c : Int) = ((a * 2 ^ k + c : Nat) : Int) := by
  rw [u64_or_nat _ _ (by omega) (by omega), nat_join k (a * 2 ^ k) c (Nat.mul_mod_left _ _) hc]

theorem byte_cut (c p k : Nat) (h : p + k ≤ 8) : c * 2 ^ p % 256 / 2 ^ (8 - k) = c % 2 ^ (8 - p) / 2 ^ (8 - p - k) := by
  have e1 : (256 : Nat) = 2 ^ p * 2 ^ (8 - p) := by rw [← Nat.pow_add, show p + (8 - p) = 8 by omega]
  have e2 : (2 : Nat) ^ (8 - k) = 2 ^ p * 2 ^ (8 - p - k) := by rw [← Nat.pow_add]; congr 1; omega
  rw [e1, e2, Nat.mul_comm c, Nat.mul_mod_mul_left, Nat.mul_div_mul_left _ _ (Nat.two_pow_pos p)]

theorem u_round (s : ByteArray) (i j k : Nat) (hj : j % 8 + k ≤ 8) (hlt : j / 8 < s.size) (hij : i ≤ j) (h64 : j - i + k ≤ 64) (hlen : j + k ≤ 8 * s.size) :
    bits .or .u64 (IntKind.u64.wrap ((natB (seg (sbits s) i (j - i)) : Int) * 2 ^ k)) (IntKind.u64.wrap (((s[j / 8]'hlt).toNat : Int) * 2 ^ (8 - (8 - j % 8)) % 256 / 2 ^ (8 - k)))
      = (natB (seg (sbits s) i (j + k - i)) : Int) := by
  have e1 : j + k - i = (j - i) + k := by omega
  have e2 : i + (j - i) = j := by omega
  have hs := seg_add (sbits s) i (j - i) k
  rw [e2] at hs
  have hl : (seg (sbits s) j k).length = k := seg_length (by rw [sbits_length]; exact hlen)
  have hl2 : (seg (sbits s) i (j - i)).length = j - i := seg_length (by rw [sbits_length]; omega)
  have hA : natB (seg (sbits s) i ((j - i) + k)) = natB (seg (sbits s) i (j - i)) * 2 ^ k + natB (seg (sbits s) j k) := by
    rw [hs, natB_append, hl]
  have hB := natB_lt (seg (sbits s) i ((j - i) + k))
  rw [seg_length (by rw [sbits_length]; omega)] at hB
  have hC := natB_lt (seg (sbits s) j k)
  rw [hl] at hC
  have hD : (2 : Nat) ^ ((j - i) + k) ≤ 2 ^ 64 := Nat.pow_le_pow_right (by omega) (by omega)
  have hbyte : (((s[j / 8]'hlt).toNat : Int) * 2 ^ (8 - (8 - j % 8)) % 256 / 2 ^ (8 - k)) = ((natB (seg (sbits s) j k) : Nat) : Int) := by
    rw [natB_seg_byte s j k hlt hj, ← byte_cut _ _ _ hj, show 8 - (8 - j % 8) = j % 8 by omega]
    simp
  have e64 : (2 : Nat) ^ 64 = 18446744073709551616 := by decide
  rw [hbyte, show ((natB (seg (sbits s) i (j - i)) : Int) * 2 ^ k) = ((natB (seg (sbits s) i (j - i)) * 2 ^ k : Nat) : Int) by simp, w_u64 (by omega), w_u64 (by omega), or_u64 k hC (by omega), e1, hA]

theorem seg_one (s : ByteArray) (i : Nat) : natB (seg (sbits s) i 1) ≤ 1 := by
  have h := natB_lt (seg (sbits s) i 1)
  have hl : (seg (sbits s) i 1).length ≤ 1 := by simp [seg]; omega
  have := Nat.pow_le_pow_right (n := 2) (by omega) hl
  omega


theorem u8_and_one {a : Nat} (h : a < 256) : bits .and .u8 (a : Int) 1 = ((a % 2 : Nat) : Int) := by
  have e := u8_and_nat a 1 h (by omega)
  rw [Nat.and_one_is_mod] at e
  exact e
theorem u64_and_one {a : Nat} (h : a < 18446744073709551616) : bits .and .u64 (a : Int) 1 = ((a % 2 : Nat) : Int) := by
  have e := u64_and_nat a 1 h (by omega)
  rw [Nat.and_one_is_mod] at e
  exact e

/-- One bit of a string. -/
theorem natB_seg_one (s : ByteArray) (j : Nat) (hlt : j / 8 < s.size) : natB (seg (sbits s) j 1) = (s[j / 8]'hlt).toNat / 2 ^ (7 - j % 8) % 2 := by
  rw [natB_seg_byte s j 1 hlt (by omega), show 8 - j % 8 - 1 = 7 - j % 8 by omega, show 8 - j % 8 = (7 - j % 8) + 1 by omega, Nat.pow_succ, Nat.mod_mul_right_div_self]

theorem qu_round (s : ByteArray) (i c j : Nat) (hj : j = i + c) (hlt : j / 8 < s.size) (h64 : c + 1 ≤ 64) (hlen : j + 1 ≤ 8 * s.size) :
    IntKind.u64.wrap (IntKind.u64.wrap (2 * (natB (seg (sbits s) i c) : Int)) + IntKind.u64.wrap (bits .and .u8 (((s[j / 8]'hlt).toNat : Int) / 2 ^ (7 - j % 8)) 1)) = (natB (seg (sbits s) i (c + 1)) : Int) := by
  subst hj
  have hl : (seg (sbits s) (i + c) 1).length = 1 := seg_length (by rw [sbits_length]; omega)
  have hA : natB (seg (sbits s) i (c + 1)) = natB (seg (sbits s) i c) * 2 + natB (seg (sbits s) (i + c) 1) := by
    rw [seg_add, natB_append, hl, Nat.pow_one]
  have hB := natB_lt (seg (sbits s) i (c + 1))
  rw [seg_length (by rw [sbits_length]; omega)] at hB
  have hD : (2 : Nat) ^ (c + 1) ≤ 2 ^ 64 := Nat.pow_le_pow_right (by omega) (by omega)
  have e64 : (2 : Nat) ^ 64 = 18446744073709551616 := by decide
  have hx : (s[(i + c) / 8]'hlt).toNat / 2 ^ (7 - (i + c) % 8) < 256 := Nat.lt_of_le_of_lt (Nat.div_le_self _ _) (s[(i + c) / 8]'hlt).toNat_lt
  have e1 : (((s[(i + c) / 8]'hlt).toNat : Int) / 2 ^ (7 - (i + c) % 8)) = (((s[(i + c) / 8]'hlt).toNat / 2 ^ (7 - (i + c) % 8) : Nat) : Int) := by simp
  rw [e1, u8_and_one hx, ← natB_seg_one s (i + c) hlt, show (2 * (natB (seg (sbits s) i c) : Int)) = ((2 * natB (seg (sbits s) i c) : Nat) : Int) by simp, w_u64 (by omega), w_u64 (by have := seg_one s (i + c); omega)]
  rw [show ((2 * natB (seg (sbits s) i c) : Nat) : Int) + ((natB (seg (sbits s) (i + c) 1) : Nat) : Int) = ((natB (seg (sbits s) i (c + 1)) : Nat) : Int) by rw [hA]; omega, w_u64 (by omega)]

theorem u8_of_bit {v : Nat} (h : v ≤ 1) : IntKind.u8.wrap (v : Int) = v := by rw [IntKind.wrap_u8]; omega


theorem and_mask_u64 {v F : Nat} (hv : v < 18446744073709551616) (hF : F < 64) : bits .and .u64 (v : Int) (IntKind.u64.wrap (IntKind.u64.wrap (2 ^ F) - 1)) = ((v % 2 ^ F : Nat) : Int) := by
  have h64 : 2 ^ F ≤ 2 ^ 63 := Nat.pow_le_pow_right (by omega) (by omega)
  have h1 : 1 ≤ 2 ^ F := Nat.one_le_two_pow
  have e64 : (2 : Nat) ^ 63 = 9223372036854775808 := by decide
  have e1 : ((2 : Int) ^ F) = ((2 ^ F : Nat) : Int) := by simp
  rw [e1, w_u64 (by omega), show ((2 ^ F : Nat) : Int) - 1 = ((2 ^ F - 1 : Nat) : Int) by omega, w_u64 (by omega), u64_and_nat _ _ hv (by omega), Nat.and_two_pow_sub_one_eq_mod]

end Go.Proofs.YtchoiimmcgkimaaDoor
