/- The walk of BitsSplits. -/
import Derived.Test.YtmolannefhbnkaaKn
namespace Go.Proofs.Ytmolannefhbnkaa
open Go.RowKit
set_option linter.unusedVariables false
set_option linter.unusedSimpArgs false

theorem split_seg (s : ByteArray) (p N K : Nat) (hK : K ≤ N) (hl : p + N ≤ 8 * s.size) :
    natB (seg (sbits s) p N) = natB (seg (sbits s) p K) * 2 ^ (N - K) + natB (seg (sbits s) (p + K) (N - K)) ∧ natB (seg (sbits s) (p + K) (N - K)) < 2 ^ (N - K) ∧ natB (seg (sbits s) p K) < 2 ^ K ∧ natB (seg (sbits s) p N) < 2 ^ N := by
  have e : seg (sbits s) p N = seg (sbits s) p K ++ seg (sbits s) (p + K) (N - K) := by rw [← seg_add]; congr 1; omega
  have l1 : (seg (sbits s) (p + K) (N - K)).length = N - K := seg_length (by rw [sbits_length]; omega)
  have l2 : (seg (sbits s) p K).length = K := seg_length (by rw [sbits_length]; omega)
  have l3 : (seg (sbits s) p N).length = N := seg_length (by rw [sbits_length]; omega)
  refine ⟨by rw [e, natB_append, l1], ?_, ?_, ?_⟩
  · have := natB_lt (seg (sbits s) (p + K) (N - K)); rwa [l1] at this
  · have := natB_lt (seg (sbits s) p K); rwa [l2] at this
  · have := natB_lt (seg (sbits s) p N); rwa [l3] at this

set_option maxRecDepth 100000 in
set_option maxHeartbeats 1000000 in
theorem splits_walk (s : ByteArray) (at' n' k' : Int) (a0 : 0 ≤ at') (a1 : at' ≤ 65535) (n0 : 0 ≤ n') (n1 : n' ≤ 255) (k0 : 0 ≤ k') (k1 : k' ≤ 255) (hm : s.size ≤ maxLen) (W : World) :
    Calls Try.prog 9 #[.string s, .int .u16 at', .int .u8 n', .int .u8 k'] W fun e w' => e = .returned (.bool true) ∧ Below W.heap.size W w' := by
  have hS := Hp.start W
  by_cases hs : s.size ≤ 200
  · have h48 : s.size ≤ 2 ^ 48 := by omega
    have i0a := Int.emod_nonneg at' (show (8 * (s.size : Int) + 1) ≠ 0 by omega)
    have i0b := Int.emod_lt_of_pos at' (show 0 < (8 * (s.size : Int) + 1) by omega)
    obtain ⟨i0, hi0⟩ : ∃ i0 : Nat, at' % (8 * (s.size : Int) + 1) = (i0 : Int) := ⟨(at' % (8 * (s.size : Int) + 1)).toNat, by omega⟩
    have hi0s : i0 ≤ 8 * s.size := by omega
    clear i0a i0b
    obtain ⟨M, hM⟩ : ∃ M : Nat, n' % 65 = (M : Int) := ⟨(n' % 65).toNat, by omega⟩
    have hM64 : M ≤ 64 := by omega
    obtain ⟨Lf, hLf⟩ : ∃ Lf, Lf = 8 * s.size - i0 := ⟨_, rfl⟩
    obtain ⟨N, hN⟩ : ∃ N, N = min M Lf := ⟨_, rfl⟩
    obtain ⟨K, hK⟩ : ∃ K : Nat, k' % ((N : Int) + 1) = (K : Int) := ⟨(k' % ((N : Int) + 1)).toNat, by have := Int.emod_nonneg k' (show ((N : Int) + 1) ≠ 0 by omega); omega⟩
    have hKN : K ≤ N := by have := Int.emod_lt_of_pos k' (show 0 < ((N : Int) + 1) by omega); omega
    have hN64 : N ≤ 64 := by omega
    have hNl : i0 + N ≤ 8 * s.size := by omega
    obtain ⟨D, hD⟩ : ∃ D, D = N - K := ⟨_, rfl⟩
    obtain ⟨sx, sz, sy, sn⟩ := split_seg s i0 N K hKN hNl
    rw [← hD] at sx sz
    obtain ⟨x, hx⟩ : ∃ x, x = natB (seg (sbits s) i0 N) := ⟨_, rfl⟩
    obtain ⟨y, hy⟩ : ∃ y, y = natB (seg (sbits s) i0 K) := ⟨_, rfl⟩
    obtain ⟨z, hz⟩ : ∃ z, z = natB (seg (sbits s) (i0 + K) D) := ⟨_, rfl⟩
    have hdd : (N : Int) - (K : Int) = (D : Int) := by omega
    have eN : uE s i0 (N : Int) = 0 := uE_ok hN64 hNl
    have iN : uI s i0 (N : Int) = i0 + N := uI_ok hN64 hNl
    have vN : uV s i0 (N : Int) = x := by rw [uV_ok hN64 hNl, hx]
    have eK : uE s i0 (K : Int) = 0 := uE_ok (by omega) (by omega)
    have iK : uI s i0 (K : Int) = i0 + K := uI_ok (by omega) (by omega)
    have vK : uV s i0 (K : Int) = y := by rw [uV_ok (by omega) (by omega), hy]
    have eD : uE s (i0 + K) (D : Int) = 0 := uE_ok (by omega) (by omega)
    have iD : uI s (i0 + K) (D : Int) = i0 + N := by rw [uI_ok (by omega) (by omega)]; omega
    have vD : uV s (i0 + K) (D : Int) = z := by rw [uV_ok (by omega) (by omega), hz]
    rw [← hx, ← hy, ← hz] at sx
    rw [← hz] at sz; rw [← hy] at sy; rw [← hx] at sn
    have hx64 : x < 18446744073709551616 := Nat.lt_of_lt_of_le sn (Nat.pow_le_pow_right (n := 2) (j := 64) (i := N) (by omega) hN64)
    have hy64 : y < 18446744073709551616 := Nat.lt_of_lt_of_le sy (Nat.pow_le_pow_right (n := 2) (j := 64) (i := K) (by omega) (by omega))
    have hz64 : z < 18446744073709551616 := Nat.lt_of_lt_of_le sz (Nat.pow_le_pow_right (n := 2) (j := 64) (i := D) (by omega) (by omega))
    have pN : pE (N : Int) x = 0 := pE_ok hN64 sn
    have bN : pB [] (N : Int) x = bitsN N x := by rw [pB_ok hN64 sn]; rfl
    have pK : pE (K : Int) y = 0 := pE_ok (by omega) sy
    have bK : pB [] (K : Int) y = bitsN K y := by rw [pB_ok (by omega) sy]; rfl
    have pD : pE (D : Int) z = 0 := pE_ok (by omega) sz
    have bD : pB (bitsN K y) (D : Int) z = bitsN N x := by
      rw [pB_ok (by omega) sz, show N = K + D by omega, bitsN_append, sx]
      congr 1
      · rw [Nat.mul_comm, Nat.mul_add_div (Nat.two_pow_pos D), Nat.div_eq_of_lt sz, Nat.add_zero]
      · rw [← bitsN_mod D (y * 2 ^ D + z), Nat.mul_comm, Nat.mul_add_mod, Nat.mod_eq_of_lt sz]
    have lN : (bitsN N x).length ≤ 2 ^ 41 := by rw [bitsN_length]; omega
    have lK : (bitsN K y).length ≤ 2 ^ 40 := by rw [bitsN_length]; omega
    have l0 : ([] : List Bool).length ≤ 2 ^ 40 := by simp
    have HL := Lib.hid hLf
    have HX := Lib.hid sx
    have hD64' : D ≤ 64 := by omega
    have HD := Lib.hid hD
    have HI0 := Lib.hid hi0
    have HNN := Lib.hid hN
    clear sx sy sz sn hx hy hz hLf hN hD hi0
    by_cases hmin : M ≤ Lf
    · obtain rfl : N = M := by have := HNN.out; omega
      have hmin' : (N : Int) ≤ (Lf : Int) := by omega
      clear hmin
      go_enter Try.func9, Try.ntmps9
      go_wp2_with (first | (go_at_call 23; refine (read_any (by assumption) _ (by first | assumption | decide)).mono ?_; rintro e w1 ⟨rb, rfl, hS⟩))
      have HS := Lib.hid (by assumption : Hp W _ [_] _)
      go_loopw [10] (fun i wr => ∃ j : Nat, i = .int .i64 j ∧ j ≤ i0 ∧ Hp W wr [aRd rb s (i0 - j)] []) (fun i _ => (intOf i).toNat)
      case atStart => exact ⟨i0, ret_i64 HI0.out, Nat.le_refl _, by rw [Nat.sub_self]; exact HS.out⟩
      case round =>
        obtain ⟨j, rfl, g1, g2⟩ := hrel
        by_cases hj : 0 < j
        · have e1 : uE s (i0 - j) 1 = 0 := uE_ok (n := 1) (by omega) (by omega)
          have i1' : uI s (i0 - j) 1 = i0 - j + 1 := uI_ok (n := 1) (by omega) (by omega)
          have i1 : uI s (i0 - j) 1 = i0 - (j - 1) := by rw [i1']; omega
          clear i1'
          have G2 := Lib.hid g2
          go_wp2_with (first | (go_at_call 27; refine (bit_any (by assumption) _ (by first | exact at0 | exact at1 | exact at2 | exact at3)).mono ?_; rintro e w1 ⟨rfl, hS⟩; simp only [set0, set1, set2, set3, i1] at hS))
          go_roundw
          case rel => exact ⟨j - 1, by congr 1; omega, by omega, by assumption⟩
          case measure => simp [intOf]; omega
        · obtain rfl : j = 0 := by omega
          rw [Nat.sub_zero] at g2
          by_cases hD64 : D < 64
          · have hDi : (D : Int) < 64 := by omega
            have hq : ((x : Int) != IntKind.u64.wrap (IntKind.u64.wrap ((y : Int) * 2 ^ D) + (z : Int))) = false := by
              have e1 : (y : Int) * 2 ^ D = ((y * 2 ^ D : Nat) : Int) := by simp
              have hx := HX.out
              rw [e1, w_u64 (by omega), show ((y * 2 ^ D : Nat) : Int) + (z : Int) = ((x : Nat) : Int) by omega, w_u64 hx64]
              simp
            clear hD64
            go_wp2_with (first | (go_at_call 26; refine (left_hp (by assumption) _ (by first | exact at0 | exact at1)).mono ?_; rw [← HL.out]; rintro e w1 ⟨rfl, hS⟩) | (go_at_call 30; refine (copy_any (by assumption) _ (by first | exact at0 | exact at1 | exact at2 | exact at3)).mono ?_; rintro e w1 ⟨cb, rfl, hS⟩) | (go_at_call 24; refine (u_any (by assumption) _ (by first | exact at0 | exact at1 | exact at2 | exact at3) _).mono ?_; rintro e w1 ⟨rfl, hS⟩; simp only [set0, set1, set2, set3, iN, iK, iD, bN, bK, bD] at hS) | (go_at_call 25; refine (pos_any (by assumption) _ (by first | exact at0 | exact at1 | exact at2 | exact at3)).mono ?_; rintro e w1 ⟨rfl, rfl⟩) | (go_at_call 12; refine (write_any (by assumption)).mono ?_; rintro e w1 ⟨wb, rfl, hS⟩) | (go_at_call 14; refine (put_any (by assumption) _ (by first | exact at0 | exact at1 | exact at2 | exact at3) (by first | assumption | omega) _ _ (by first | assumption | omega)).mono ?_; rintro e w1 ⟨rfl, hS⟩; simp only [set0, set1, set2, set3, iN, iK, iD, bN, bK, bD] at hS) | (go_at_call 18; refine (wbits_any (by assumption) _ (by first | exact at0 | exact at1 | exact at2 | exact at3) (by first | assumption | omega)).mono ?_; rintro e w1 ⟨rfl, hS⟩) | (go_at_call 11; refine (known_any (by assumption)).mono ?_; rintro e w1 ⟨rfl, hS⟩))
            exact bodyPost_ret (results_tmp rfl _ _ _) rfl ⟨rfl, Hp.below (by assumption)⟩
          · have hDi : ¬ (D : Int) < 64 := by omega
            have hDj : ((D : Int) == 64) = true := by simp; omega
            have hxz : ((x : Int) != (z : Int)) = false := by
              have hd := HD.out
              have hK0 : K = 0 := by omega
              have hx := HX.out
              have hy0 : y = 0 := by
                have e : uV s i0 (K : Int) = 0 := by rw [hK0, uV_ok (by omega) (by omega)]; simp [natB]
                rw [vK] at e; exact e
              rw [hy0] at hx
              simp; omega
            clear hD64
            go_wp2_with (first | (go_at_call 26; refine (left_hp (by assumption) _ (by first | exact at0 | exact at1)).mono ?_; rw [← HL.out]; rintro e w1 ⟨rfl, hS⟩) | (go_at_call 30; refine (copy_any (by assumption) _ (by first | exact at0 | exact at1 | exact at2 | exact at3)).mono ?_; rintro e w1 ⟨cb, rfl, hS⟩) | (go_at_call 24; refine (u_any (by assumption) _ (by first | exact at0 | exact at1 | exact at2 | exact at3) _).mono ?_; rintro e w1 ⟨rfl, hS⟩; simp only [set0, set1, set2, set3, iN, iK, iD, bN, bK, bD] at hS) | (go_at_call 25; refine (pos_any (by assumption) _ (by first | exact at0 | exact at1 | exact at2 | exact at3)).mono ?_; rintro e w1 ⟨rfl, rfl⟩) | (go_at_call 12; refine (write_any (by assumption)).mono ?_; rintro e w1 ⟨wb, rfl, hS⟩) | (go_at_call 14; refine (put_any (by assumption) _ (by first | exact at0 | exact at1 | exact at2 | exact at3) (by first | assumption | omega) _ _ (by first | assumption | omega)).mono ?_; rintro e w1 ⟨rfl, hS⟩; simp only [set0, set1, set2, set3, iN, iK, iD, bN, bK, bD] at hS) | (go_at_call 18; refine (wbits_any (by assumption) _ (by first | exact at0 | exact at1 | exact at2 | exact at3) (by first | assumption | omega)).mono ?_; rintro e w1 ⟨rfl, hS⟩) | (go_at_call 11; refine (known_any (by assumption)).mono ?_; rintro e w1 ⟨rfl, hS⟩))
            exact bodyPost_ret (results_tmp rfl _ _ _) rfl ⟨rfl, Hp.below (by assumption)⟩
    · obtain ⟨hLN⟩ : Nonempty (N = Lf) := ⟨by have := HNN.out; omega⟩
      have HLN := Lib.hid hLN
      have hmin' : ¬ (M : Int) ≤ (N : Int) := by omega
      clear hmin hLN
      go_enter Try.func9, Try.ntmps9
      go_wp2_with (first | (go_at_call 23; refine (read_any (by assumption) _ (by first | assumption | decide)).mono ?_; rintro e w1 ⟨rb, rfl, hS⟩))
      have HS := Lib.hid (by assumption : Hp W _ [_] _)
      go_loopw [10] (fun i wr => ∃ j : Nat, i = .int .i64 j ∧ j ≤ i0 ∧ Hp W wr [aRd rb s (i0 - j)] []) (fun i _ => (intOf i).toNat)
      case atStart => exact ⟨i0, ret_i64 HI0.out, Nat.le_refl _, by rw [Nat.sub_self]; exact HS.out⟩
      case round =>
        obtain ⟨j, rfl, g1, g2⟩ := hrel
        by_cases hj : 0 < j
        · have e1 : uE s (i0 - j) 1 = 0 := uE_ok (n := 1) (by omega) (by omega)
          have i1' : uI s (i0 - j) 1 = i0 - j + 1 := uI_ok (n := 1) (by omega) (by omega)
          have i1 : uI s (i0 - j) 1 = i0 - (j - 1) := by rw [i1']; omega
          clear i1'
          have G2 := Lib.hid g2
          go_wp2_with (first | (go_at_call 27; refine (bit_any (by assumption) _ (by first | exact at0 | exact at1 | exact at2 | exact at3)).mono ?_; rintro e w1 ⟨rfl, hS⟩; simp only [set0, set1, set2, set3, i1] at hS))
          go_roundw
          case rel => exact ⟨j - 1, by congr 1; omega, by omega, by assumption⟩
          case measure => simp [intOf]; omega
        · obtain rfl : j = 0 := by omega
          rw [Nat.sub_zero] at g2
          by_cases hD64 : D < 64
          · have hDi : (D : Int) < 64 := by omega
            have hq : ((x : Int) != IntKind.u64.wrap (IntKind.u64.wrap ((y : Int) * 2 ^ D) + (z : Int))) = false := by
              have e1 : (y : Int) * 2 ^ D = ((y * 2 ^ D : Nat) : Int) := by simp
              have hx := HX.out
              rw [e1, w_u64 (by omega), show ((y * 2 ^ D : Nat) : Int) + (z : Int) = ((x : Nat) : Int) by omega, w_u64 hx64]
              simp
            clear hD64
            go_wp2_with (first | (go_at_call 26; refine (left_hp (by assumption) _ (by first | exact at0 | exact at1)).mono ?_; rw [← HL.out, ← HLN.out]; rintro e w1 ⟨rfl, hS⟩) | (go_at_call 30; refine (copy_any (by assumption) _ (by first | exact at0 | exact at1 | exact at2 | exact at3)).mono ?_; rintro e w1 ⟨cb, rfl, hS⟩) | (go_at_call 24; refine (u_any (by assumption) _ (by first | exact at0 | exact at1 | exact at2 | exact at3) _).mono ?_; rintro e w1 ⟨rfl, hS⟩; simp only [set0, set1, set2, set3, iN, iK, iD, bN, bK, bD] at hS) | (go_at_call 25; refine (pos_any (by assumption) _ (by first | exact at0 | exact at1 | exact at2 | exact at3)).mono ?_; rintro e w1 ⟨rfl, rfl⟩) | (go_at_call 12; refine (write_any (by assumption)).mono ?_; rintro e w1 ⟨wb, rfl, hS⟩) | (go_at_call 14; refine (put_any (by assumption) _ (by first | exact at0 | exact at1 | exact at2 | exact at3) (by first | assumption | omega) _ _ (by first | assumption | omega)).mono ?_; rintro e w1 ⟨rfl, hS⟩; simp only [set0, set1, set2, set3, iN, iK, iD, bN, bK, bD] at hS) | (go_at_call 18; refine (wbits_any (by assumption) _ (by first | exact at0 | exact at1 | exact at2 | exact at3) (by first | assumption | omega)).mono ?_; rintro e w1 ⟨rfl, hS⟩) | (go_at_call 11; refine (known_any (by assumption)).mono ?_; rintro e w1 ⟨rfl, hS⟩))
            exact bodyPost_ret (results_tmp rfl _ _ _) rfl ⟨rfl, Hp.below (by assumption)⟩
          · have hDi : ¬ (D : Int) < 64 := by omega
            have hDj : ((D : Int) == 64) = true := by simp; omega
            have hxz : ((x : Int) != (z : Int)) = false := by
              have hd := HD.out
              have hK0 : K = 0 := by omega
              have hx := HX.out
              have hy0 : y = 0 := by
                have e : uV s i0 (K : Int) = 0 := by rw [hK0, uV_ok (by omega) (by omega)]; simp [natB]
                rw [vK] at e; exact e
              rw [hy0] at hx
              simp; omega
            clear hD64
            go_wp2_with (first | (go_at_call 26; refine (left_hp (by assumption) _ (by first | exact at0 | exact at1)).mono ?_; rw [← HL.out, ← HLN.out]; rintro e w1 ⟨rfl, hS⟩) | (go_at_call 30; refine (copy_any (by assumption) _ (by first | exact at0 | exact at1 | exact at2 | exact at3)).mono ?_; rintro e w1 ⟨cb, rfl, hS⟩) | (go_at_call 24; refine (u_any (by assumption) _ (by first | exact at0 | exact at1 | exact at2 | exact at3) _).mono ?_; rintro e w1 ⟨rfl, hS⟩; simp only [set0, set1, set2, set3, iN, iK, iD, bN, bK, bD] at hS) | (go_at_call 25; refine (pos_any (by assumption) _ (by first | exact at0 | exact at1 | exact at2 | exact at3)).mono ?_; rintro e w1 ⟨rfl, rfl⟩) | (go_at_call 12; refine (write_any (by assumption)).mono ?_; rintro e w1 ⟨wb, rfl, hS⟩) | (go_at_call 14; refine (put_any (by assumption) _ (by first | exact at0 | exact at1 | exact at2 | exact at3) (by first | assumption | omega) _ _ (by first | assumption | omega)).mono ?_; rintro e w1 ⟨rfl, hS⟩; simp only [set0, set1, set2, set3, iN, iK, iD, bN, bK, bD] at hS) | (go_at_call 18; refine (wbits_any (by assumption) _ (by first | exact at0 | exact at1 | exact at2 | exact at3) (by first | assumption | omega)).mono ?_; rintro e w1 ⟨rfl, hS⟩) | (go_at_call 11; refine (known_any (by assumption)).mono ?_; rintro e w1 ⟨rfl, hS⟩))
            all_goals exact bodyPost_ret (results_tmp rfl _ _ _) rfl ⟨rfl, Hp.below (by assumption)⟩
  · go_enter Try.func9, Try.ntmps9
    go_wp2_with (first | (go_at_call 11; refine (known_any (by assumption)).mono ?_; rintro e w1 ⟨rfl, hS⟩))
    exact bodyPost_ret (results_tmp rfl _ _ _) rfl ⟨rfl, Hp.below (by assumption)⟩
end Go.Proofs.Ytmolannefhbnkaa
