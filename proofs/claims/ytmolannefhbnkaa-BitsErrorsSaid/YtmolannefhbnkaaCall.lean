/- A slice of the law's calls, as it came in; and the law's fit. -/
import Derived.Test.YtmolannefhbnkaaKn
import Derived.Deep.Slices
import Derived.Deep.Fields
import Derived.ChangeSame
namespace Go.Proofs.Ytmolannefhbnkaa
open Go.RowKit
set_option linter.unusedVariables false
set_option linter.unusedSimpArgs false

/-- Element i: What, N, V. -/
structure CallsIn (W : World) (sp : Option Addr) (n : Nat) (b o : Nat) (wh nn : Nat → Int) (vv : Nat → Nat) : Prop where
  at_ : 0 < n → sp = some ⟨b, o, none⟩ ∧ b < W.heap.size
  c0 : ∀ i, i < n → W.cell? ⟨b, o + i * 3, none⟩ = some (.int .u8 (wh i))
  c1 : ∀ i, i < n → W.cell? ⟨b, o + i * 3 + 1, none⟩ = some (.int .i64 (nn i))
  c2 : ∀ i, i < n → W.cell? ⟨b, o + i * 3 + 2, none⟩ = some (.int .u64 (vv i))
  b0 : ∀ i, i < n → 0 ≤ wh i ∧ wh i ≤ 255
  b1 : ∀ i, i < n → -9223372036854775808 ≤ nn i ∧ nn i ≤ 9223372036854775807
  b2 : ∀ i, i < n → vv i < 18446744073709551616

/-- The number of bits that fit makes, and its number. -/
def fitN (n : Int) : Nat := (n.tmod 65 + 65).toNat % 65
def fitV (n : Int) (v : Nat) : Nat := v % 2 ^ fitN n

theorem fitN_le (n : Int) : fitN n ≤ 64 := by unfold fitN; omega
theorem fitV_lt (n : Int) (v : Nat) : fitV n v < 2 ^ fitN n := Nat.mod_lt _ (Nat.two_pow_pos _)

theorem fit_any (wh nn : Int) (v : Nat) (h1 : -9223372036854775808 ≤ nn) (h2 : nn ≤ 9223372036854775807) (hv : v < 18446744073709551616) (w : World) :
    Calls Try.prog 22 #[.agg #[.int .u8 wh, .int .i64 nn, .int .u64 v]] w fun e w' => e = .returned (.tuple #[.int .i64 (fitN nn), .int .u64 (fitV nn v)]) ∧ Below w.heap.size w w' := by
  have tb : -64 ≤ nn.tmod 65 ∧ nn.tmod 65 ≤ 64 := by
    have h1 := Int.tmod_lt_of_pos nn (show (0 : Int) < 65 by omega)
    have h2 := Int.lt_tmod_of_pos nn (show (0 : Int) < 65 by omega)
    omega
  obtain ⟨m, hm⟩ : ∃ m : Nat, nn.tmod 65 + 65 = (m : Int) := ⟨(nn.tmod 65 + 65).toNat, by omega⟩
  have q1 : wrap64 (nn.tmod 65 + 65) = (m : Int) := by rw [hm]; exact IntWalk.wrap64_in _ ⟨by omega, by omega⟩
  obtain ⟨F, hF⟩ : ∃ F, F = fitN nn := ⟨_, rfl⟩
  have hF2 : F = m % 65 := by rw [hF]; unfold fitN; rw [hm, Int.toNat_natCast]
  have q2 : (m : Int) % 65 = (F : Int) := by omega
  have hF64 : F ≤ 64 := by rw [hF]; exact fitN_le nn
  have hV : fitV nn v = v % 2 ^ F := by rw [hF]; rfl
  rw [← hF, hV]
  have Hm := Lib.hid hm
  clear hm hF hF2 hV tb
  by_cases h64 : F = 64
  · have q3 : ((F : Int) == 64) = true := by simp; omega
    go_enter Try.func22, Try.ntmps22
    go_wp2
    go_quiet (fail)
    go_wp2
    refine bodyPost_ret (results_tmp2 rfl _ _ _) rfl ⟨?_, ?_⟩
    · show Ending.returned (.tuple #[.int .i64 ((m : Int) % 65), .int .u64 v]) = _
      rw [q2, h64, Nat.mod_eq_of_lt hv]
    · exact (((Below.refl _ _).alloc (Nat.le_refl _) _)).trans ⟨rfl, rfl, rfl, Nat.le_refl _, fun _ _ => rfl⟩
  · have q3 : ((F : Int) == 64) = false := by simp; omega
    have q4 : F < 64 := by omega
    go_enter Try.func22, Try.ntmps22
    go_wp2
    go_quiet (fail)
    go_wp2
    refine bodyPost_ret (results_tmp2 rfl _ _ _) rfl ⟨?_, ?_⟩
    · show Ending.returned (.tuple #[.int .i64 ((m : Int) % 65), .int .u64 (bits .and .u64 (v : Int) (IntKind.u64.wrap (IntKind.u64.wrap (2 ^ F) - 1)))]) = _
      rw [q2, and_mask_u64 hv q4]
    · exact (((Below.refl _ _).alloc (Nat.le_refl _) _)).trans ⟨rfl, rfl, rfl, Nat.le_refl _, fun _ _ => rfl⟩


/-- The bits of the first i numbers. -/
def outB (nn : Nat → Int) (vv : Nat → Nat) : Nat → List Bool
  | 0 => []
  | i + 1 => outB nn vv i ++ bitsN (fitN (nn i)) (fitV (nn i) (vv i))

theorem outB_len (nn : Nat → Int) (vv : Nat → Nat) : ∀ i, (outB nn vv i).length ≤ 64 * i
  | 0 => by simp [outB]
  | i + 1 => by
    have := outB_len nn vv i
    have := fitN_le (nn i)
    simp only [outB, List.length_append, bitsN_length]; omega

theorem outB_split (nn : Nat → Int) (vv : Nat → Nat) (n : Nat) : ∀ d i, i + d = n → ∃ R, outB nn vv n = outB nn vv i ++ R
  | 0, i, h => ⟨[], by rw [← h]; simp⟩
  | d + 1, i, h => by
    obtain ⟨R, hR⟩ := outB_split nn vv n d (i + 1) (by omega)
    exact ⟨_, by rw [hR, outB, List.append_assoc]⟩

/-- What is read back at place i. -/
theorem outB_back (nn : Nat → Int) (vv : Nat → Nat) (n i : Nat) (h : i < n) :
    natB (seg (sbits (pstr (outB nn vv n))) (outB nn vv i).length (fitN (nn i))) = fitV (nn i) (vv i) ∧ (outB nn vv i).length + fitN (nn i) ≤ 8 * (pstr (outB nn vv n)).size := by
  obtain ⟨R, hR⟩ := outB_split nn vv n (n - (i + 1)) (i + 1) (by omega)
  have hl : (outB nn vv i).length + fitN (nn i) ≤ (outB nn vv n).length := by
    rw [hR, List.length_append, outB, List.length_append, bitsN_length]; omega
  constructor
  · rw [sbits_pstr, seg_append_left hl]
    rw [hR, outB, List.append_assoc]
    have e := seg_append_right (outB nn vv i) (bitsN (fitN (nn i)) (fitV (nn i) (vv i)) ++ R) 0 (fitN (nn i))
    rw [Nat.add_zero] at e
    rw [e]
    simp only [seg, List.drop_zero]
    rw [List.take_append_of_le_length (by rw [bitsN_length]; omega), List.take_of_length_le (by rw [bitsN_length]; omega), natB_bitsN_lt (fitV_lt _ _)]
  · rw [pstr_size]; omega

theorem natB_zeros (n : Nat) : natB (List.replicate n false) = 0 := by rw [← bitsN_zero, natB_bitsN]; simp

/-- What is left behind the bits: zeros, fewer than eight. -/
theorem pstr_rest (B : List Bool) : 8 * (pstr B).size - B.length < 8 ∧ B.length ≤ 8 * (pstr B).size ∧ natB (seg (sbits (pstr B)) B.length (8 * (pstr B).size - B.length)) = 0 := by
  refine ⟨by rw [pstr_size]; omega, by rw [pstr_size]; omega, ?_⟩
  rw [sbits_pstr]
  have e := seg_append_right B (List.replicate ((8 - B.length % 8) % 8) false) 0 (8 * (pstr B).size - B.length)
  rw [Nat.add_zero] at e
  rw [e]
  simp only [seg, List.drop_zero, List.take_replicate]
  exact natB_zeros _

end Go.Proofs.Ytmolannefhbnkaa
