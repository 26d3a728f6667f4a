/- The walk of BitsBytes. -/
import Derived.Test.YtmolannefhbnkaaKn
namespace Go.Proofs.Ytmolannefhbnkaa
open Go.RowKit
set_option linter.unusedVariables false
set_option linter.unusedSimpArgs false

theorem take_seg (B : List Bool) (j n : Nat) : B.take (j + n) = B.take j ++ seg B j n := by
  simp only [seg]; rw [List.take_add]

theorem seg_bitsN (s : ByteArray) (i n : Nat) (h : i + n ≤ 8 * s.size) : bitsN n (natB (seg (sbits s) i n)) = seg (sbits s) i n := by
  have hl : (seg (sbits s) i n).length = n := seg_length (by rw [sbits_length]; exact h)
  have := bitsN_natB (seg (sbits s) i n)
  rwa [hl] at this

theorem packB_all (l : List UInt8) : packB (sbitsL l) = l := by
  have := packB_sbits l []
  rwa [List.append_nil, packB_nil, List.append_nil] at this
theorem pstr_all (s : ByteArray) : pstr (sbits s) = s := by
  unfold pstr sbits
  rw [packB_all]

theorem strB_at (B : List Bool) (j : Nat) (h : j < (strB B).size) (hB : j < B.length) : ((strB B)[j]'h).toNat = 48 + (B[j]'hB).toNat := by
  have : (strB B)[j]'h = chB (B[j]'hB) := by
    show (strB B).data[j]'h = _
    simp [strB]
  rw [this]
  have := chB_nat (B[j]'hB)
  omega

theorem seg_one_bit (B : List Bool) (j : Nat) (h : j < B.length) : natB (seg B j 1) = (B[j]'h).toNat := by
  have : seg B j 1 = [B[j]'h] := by
    simp only [seg]
    rw [List.drop_eq_getElem_cons h]
    rfl
  rw [this, natB_one]

theorem bytes_walk (s : ByteArray) (hm : s.size ≤ maxLen) (W : World) :
    Calls Try.prog 6 #[.string s] W fun e w' => e = .returned (.bool true) ∧ Below W.heap.size W w' := by
  have hS := Hp.start W
  by_cases hs : s.size ≤ 200
  · have h48 : s.size ≤ 2 ^ 48 := by omega
    have h2048 : (sbits s).length ≤ 2 ^ 40 := by rw [sbits_length]; omega
    go_enter Try.func6, Try.ntmps6
    go_wp2_with (first | (go_at_call 23; refine (read_any (by assumption) _ (by first | assumption | decide)).mono ?_; rintro e w1 ⟨rb, rfl, hS⟩) | (go_at_call 12; refine (write_any (by assumption)).mono ?_; rintro e w1 ⟨wb, rfl, hS⟩))
    have HS := Lib.hid (by assumption : Hp W _ [_, _] _)
    go_loopw [5] (fun i wr => ∃ c : Nat, i = .int .i64 c ∧ c ≤ s.size ∧ Hp W wr [aWr wb ((sbits s).take (8 * c)), aRd rb s (8 * c)] []) (fun i _ => s.size - (intOf i).toNat)
    case atStart => exact ⟨0, rfl, Nat.zero_le _, HS.out⟩
    case round =>
      obtain ⟨c, rfl, g1, g2⟩ := hrel
      by_cases hc : c < s.size
      · have G2 := Lib.hid g2; clear g2
        go_wp2
        obtain ⟨wo, rfl⟩ : ∃ wo : World, wo = wr := ⟨_, rfl⟩
        go_loopw [6, 7] (fun n k wi => ∃ m : Nat, k = .int .i64 m ∧ m ≤ 8 ∧ n = .int .i64 (natB (seg (sbits s) (8 * c) m)) ∧ Hp W wi [aWr wb ((sbits s).take (8 * c + m)), aRd rb s (8 * c + m)] []) (fun _ k _ => 8 - (intOf k).toNat)
        case atStart => exact ⟨0, rfl, by omega, by simp [natB], G2.out⟩
        case round =>
          obtain ⟨m, rfl, f1, rfl, f2⟩ := hrel
          by_cases hm8 : m < 8
          · obtain ⟨j, hj⟩ : ∃ j, j = 8 * c + m := ⟨_, rfl⟩
            rw [← hj] at f2
            have hjl : j < (sbits s).length := by rw [sbits_length]; omega
            obtain ⟨x, hx⟩ : ∃ x, x = ((sbits s)[j]'hjl).toNat := ⟨_, rfl⟩
            have hx1 : x ≤ 1 := by rw [hx]; cases (sbits s)[j]'hjl <;> simp
            have hseg : natB (seg (sbits s) j 1) = x := by rw [seg_one_bit _ _ hjl, hx]
            have e1 : uE s j 1 = 0 := uE_ok (n := 1) (by omega) (by rw [sbits_length] at hjl; omega)
            have i1 : uI s j 1 = j + 1 := uI_ok (n := 1) (by omega) (by rw [sbits_length] at hjl; omega)
            have v1 : uV s j 1 = x := by rw [← hseg]; exact uV_ok (n := 1) (by omega) (by rw [sbits_length] at hjl; omega)
            have hxp : x < 2 ^ 1 := by omega
            have p1 : pE 1 x = 0 := pE_ok (n := 1) (by omega) hxp
            have b1 : pB ((sbits s).take j) 1 x = (sbits s).take (j + 1) := by
              rw [take_seg, ← seg_bitsN s j 1 (by rw [sbits_length] at hjl; omega), hseg]
              exact pB_ok (n := 1) (by omega) hxp
            have hl40 : ((sbits s).take j).length ≤ 2 ^ 40 := by simp; omega
            have hl41 : ((sbits s).take (j + 1)).length ≤ 2 ^ 41 := by simp; omega
            have hji : 8 * (c : Int) + (m : Int) = (j : Int) := by omega
            have hsz : (strB ((sbits s).take (j + 1))).size = j + 1 := by rw [strB_size, List.length_take]; omega
            have hat : ∀ h, (((strB ((sbits s).take (j + 1)))[j]'h).toNat) = 48 + x := fun h => by
              rw [strB_at _ j h (by rw [List.length_take]; omega), hx]
              simp
            have hn : natB (seg (sbits s) (8 * c) m) ≤ 255 := by
              have := natB_lt (seg (sbits s) (8 * c) m)
              rw [seg_length (by rw [sbits_length]; omega)] at this
              have := Nat.pow_le_pow_right (n := 2) (i := m) (j := 7) (by omega) (by omega)
              omega
            have hX := Lib.hid hx; clear hx
            have HJ := Lib.hid hj; clear hj
            have hx64 : x < 18446744073709551616 := by omega
            clear hseg hxp h2048
            have HJL := Lib.hid hjl
            go_wp2_with (first | (go_at_call 27; refine (bit_any (by assumption) _ (by first | exact at0 | exact at1 | exact at2 | exact at3)).mono ?_; rintro e w1 ⟨rfl, hS⟩; simp only [set0, set1, set2, set3, i1, b1, v1, e1] at hS) | (go_at_call 14; refine (put_any (by assumption) _ (by first | exact at0 | exact at1 | exact at2 | exact at3) (by first | assumption | omega) _ _ (by first | assumption | omega)).mono ?_; rintro e w1 ⟨rfl, hS⟩; simp only [set0, set1, set2, set3, i1, b1, v1, e1] at hS) | (go_at_call 18; refine (wbits_any (by assumption) _ (by first | exact at0 | exact at1 | exact at2 | exact at3) (by first | assumption | omega)).mono ?_; rintro e w1 ⟨rfl, hS⟩))
            have hJ := HJ.out
            have hjl := HJL.out
            have hst : natB (seg (sbits s) (8 * c) (m + 1)) = 2 * natB (seg (sbits s) (8 * c) m) + x := by
              have hl1 : (seg (sbits s) (8 * c + m) 1).length = 1 := seg_length (by omega)
              rw [seg_add, natB_append, hl1, ← hJ, seg_one_bit _ _ HJL.out, ← hX.out]
              omega
            go_roundw
            case rel => exact ⟨m + 1, by go_num, by omega, ret_i64 (by rw [hst]; omega), by rw [← Nat.add_assoc, ← hJ]; assumption⟩
            case measure => simp [intOf]; omega
          · obtain rfl : m = 8 := by omega
            have F2 := Lib.hid f2; clear f2
            have h8 : natB (seg (sbits s) (8 * c) 8) = (s[c]'hc).toNat := by
              have e := seg_sbits_byte s c hc 0 8 (by omega)
              rw [Nat.add_zero] at e
              rw [e]
              have : seg (bitsN 8 (s[c]'hc).toNat) 0 8 = bitsN 8 (s[c]'hc).toNat := by
                simp only [seg, List.drop_zero]
                exact List.take_of_length_le (by rw [bitsN_length]; omega)
              rw [this, natB_bitsN_lt (s[c]'hc).toNat_lt]
            obtain ⟨y, hy⟩ : ∃ y, y = (s[c]'hc).toNat := ⟨_, rfl⟩
            rw [← hy] at h8
            have hy2 : ∀ h, (s[c]'h).toNat = y := fun h => hy.symm
            have hy3 : y ≤ 255 := by rw [hy]; have := (s[c]'hc).toNat_lt; omega
            clear hy
            go_wp2
            go_roundw
            case rel => exact ⟨c + 1, by go_num, by omega, by rw [show 8 * (c + 1) = 8 * c + 8 by omega]; exact F2.out⟩
            case measure => simp [intOf]; omega
      · obtain rfl : c = s.size := by omega
        have hall : (sbits s).take (8 * s.size) = sbits s := List.take_of_length_le (by rw [sbits_length]; omega)
        rw [hall] at g2
        have hp := pstr_all s
        have hl41 : (sbits s).length ≤ 2 ^ 41 := by omega
        go_wp2_with (first | (go_at_call 20; refine (bytes_any (by assumption) _ (by first | exact at0 | exact at1 | exact at2 | exact at3) (by first | assumption | omega)).mono ?_; rintro e w1 ⟨rfl, hS⟩) | (go_at_call 26; refine (left_hp (by assumption) _ (by first | exact at0 | exact at1 | exact at2 | exact at3)).mono ?_; rintro e w1 ⟨rfl, hS⟩) | (go_at_call 11; refine (known_any (by assumption)).mono ?_; rintro e w1 ⟨rfl, hS⟩))
        exact bodyPost_ret (results_tmp rfl _ _ _) rfl ⟨rfl, Hp.below (by assumption)⟩
  · go_enter Try.func6, Try.ntmps6
    go_wp2_with (first | (go_at_call 11; refine (known_any (by assumption)).mono ?_; rintro e w1 ⟨rfl, hS⟩))
    exact bodyPost_ret (results_tmp rfl _ _ _) rfl ⟨rfl, (by assumption : Hp _ _ _ _).below⟩
end Go.Proofs.Ytmolannefhbnkaa
