/- The reference's Put. -/
import Derived.Test.YtmlkkeabgnhhnaaLm
import Derived.Test.YtmlkkeabgnhhnaaLk
import Derived.Test.YtmlkkeabgnhhnaaLb
namespace Go.Proofs.Ytmlkkeabgnhhnaa
open Go.RowKit
set_option linter.unusedVariables false
set_option maxRecDepth 100000
set_option linter.unusedSimpArgs false

theorem qlput_same {L : List AObj} {k j b b' K l sk : Nat} {B : List Bool} {v x : Int} (hk : L[k]? = some (aQco b K l sk)) (hj : L[j]? = some (aQwr b' B)) (he : lpE K l sk v = x) (hx : x ≠ 0) :
    (L.set j (aQwr b' (lpB B K l sk v))).set k (aQco b (lpK K l sk v) (lpL K l sk v) (lpS K l sk v)) = L := by
  have e1 : lpB B K l sk v = B := if_neg (by rw [he]; exact hx)
  have e2 : lpK K l sk v = K := if_neg (by rw [he]; exact hx)
  have e3 : lpL K l sk v = l := if_neg (by rw [he]; exact hx)
  have e4 : lpS K l sk v = sk := if_neg (by rw [he]; exact hx)
  rw [e1, e2, e3, e4, set_same hj, set_same hk]
theorem qput_as {W w : World} {L : List AObj} {F : List (Nat × Obj)} {b : Nat} (h : Hp W w L F) (k : Nat) {B : List Bool} (hk : L[k]? = some (aQwr b B)) (hB : B.length ≤ 2 ^ 40) (n v : Int) (h0 : 0 ≤ v) (hv : v < 18446744073709551616) {e0 : Int} {B' : List Bool} (hx : pE n v.toNat = e0 ∧ pB B n v.toNat = B') :
    Calls Try.prog 47 #[.pointer (some ⟨b, 0, none⟩), .int .i64 n, .int .u64 v] w fun e w' => e = .returned (.int .i64 e0) ∧ Hp W w' (L.set k (aQwr b B')) F := by
  obtain ⟨rfl, rfl⟩ := hx
  exact qput_int h k hk hB n v h0 hv

set_option maxHeartbeats 8000000 in
theorem qlput_any {W w : World} {L : List AObj} {F : List (Nat × Obj)} {b b' K l sk : Nat} {B : List Bool} (h : Hp W w L F) (k j : Nat) (hkj : k ≠ j) (hk : L[k]? = some (aQco b K l sk)) (hj : L[j]? = some (aQwr b' B)) (hK : K ≤ 6) (hl : l ≤ 16) (hsk : sk = 0 ∨ sk = 2) (hB : B.length ≤ 2 ^ 39) (v : Int) (hv1 : -9223372036854775808 ≤ v) (hv2 : v < 9223372036854775808) :
    Calls Try.prog 16 #[.pointer (some ⟨b, 0, none⟩), .pointer (some ⟨b', 0, none⟩), .int .i64 v] w fun e w' => e = .returned (.int .i64 (lpE K l sk v)) ∧ Hp W w' ((L.set j (aQwr b' (lpB B K l sk v))).set k (aQco b (lpK K l sk v) (lpL K l sk v) (lpS K l sk v))) F := by
  obtain ⟨c0, c1, c2, f0, f1, f2⟩ := aQco_cells h k hk
  have hsk2 : sk ≤ 2 := by omega
  have hB40 : B.length ≤ 2 ^ 40 := by omega
  have hmst : mst K ≤ 6000 := by unfold mst; have := esc_le K hK; omega
  have HJ := Lib.hid hj
  have HK := Lib.hid hk
  have H := Lib.hid h
  clear hj hk h
  cases l with
  | zero =>
    have hE : lpE K 0 sk v = 8 := rfl
    rw [hE, qlput_same HK.out HJ.out hE (by decide)]
    clear hE hsk
    go_enter Try.func16, Try.ntmps16
    go_wp2_with (fail)
    exact bodyPost_ret (results_tmp rfl _ _ _) rfl ⟨rfl, H.out⟩
  | succ l =>
    have hl16 : l ≤ 16 := by omega
    have hl0 : (((l : Int) + 1) == 0) = false := by simp; omega
    by_cases hz : v = 0
    · subst hz
      have hE : lpE K (l + 1) sk 0 = 2 := by unfold lpE; rw [if_neg (by omega), if_pos (Or.inl rfl)]
      rw [hE, qlput_same HK.out HJ.out hE (by decide)]
      clear hE hsk
      go_enter Try.func16, Try.ntmps16
      go_wp2_with (fail)
      exact bodyPost_ret (results_tmp rfl _ _ _) rfl ⟨rfl, H.out⟩
    · by_cases h1 : sk = 2 ∧ v.natAbs = 1
      · obtain ⟨rfl, h1⟩ := h1
        have hE : lpE K (l + 1) 2 v = 2 := by unfold lpE; rw [if_neg (by omega), if_pos (Or.inr ⟨by omega, by omega⟩)]
        rw [hE, qlput_same HK.out HJ.out hE (by decide)]
        clear hE
        have : v = 1 ∨ v = -1 := by omega
        clear hz
        rcases this with rfl | rfl
        all_goals
          go_enter Try.func16, Try.ntmps16
          go_wp2_with (fail)
          exact bodyPost_ret (results_tmp rfl _ _ _) rfl ⟨rfl, H.out⟩
      · have hvs : 0 < sk → v.natAbs ≠ 1 := by omega
        have t0 : (v == 0) = false := by simpa using hz
        have HZ := Lib.hid hz
        have HV := Lib.hid hvs
        have hLB := lnum_bounds (v := v)
        by_cases hq : mst K + sk < lnum v
        · have hE : lpE K (l + 1) sk v = 12 := by unfold lpE; rw [if_neg (by omega), if_neg (by omega), if_pos hq]
          rw [hE, qlput_same HK.out HJ.out hE (by decide)]
          have HI : Hid (decide (lnum v ≤ mst K + sk) = false) := Lib.hid (by simp; omega)
          clear hE hq hLB hz
          rcases hsk with rfl | rfl
          · clear h1 hvs
            go_enter Try.func16, Try.ntmps16
            go_wp2_with (first | (go_at_call 44; (with_reducible refine (has_as H.out k HK.out hK hv1 hv2 HZ.out (by omega) HV.out HI.out).mono ?_); rintro e w1 ⟨rfl, h1⟩))
            exact bodyPost_ret (results_tmp rfl _ _ _) rfl ⟨rfl, h1⟩
          · have t1 : (v == 1) = false := by simp; omega
            have t2 : (v == -1) = false := by simp; omega
            clear h1 hvs
            go_enter Try.func16, Try.ntmps16
            go_wp2_with (first | (go_at_call 44; (with_reducible refine (has_as H.out k HK.out hK hv1 hv2 HZ.out (by omega) HV.out HI.out).mono ?_); rintro e w1 ⟨rfl, h1⟩))
            exact bodyPost_ret (results_tmp rfl _ _ _) rfl ⟨rfl, h1⟩
        · have hE : lpE K (l + 1) sk v = 0 := by unfold lpE; rw [if_neg (by omega), if_neg (by omega), if_neg hq]
          have e1 : lpB B K (l + 1) sk v = B ++ lcode K (lnum v - sk) := if_pos hE
          have e2 : lpK K (l + 1) sk v = nxt K v.natAbs := if_pos hE
          have e3 : lpL K (l + 1) sk v = l := by unfold lpL; rw [if_pos hE]; omega
          have e4 : lpS K (l + 1) sk v = 0 := if_pos hE
          rw [hE, e1, e2, e3, e4]
          have hs1 : sk ≤ lnum v := by omega
          have HI : Hid (decide (lnum v ≤ mst K + sk) = true) := Lib.hid (by simp; omega)
          have HNA : Hid (v.natAbs ≤ 2 ^ 40) := Lib.hid (by omega)
          have HNB : Hid (v.natAbs ≤ 2 ^ 62) := Lib.hid (by omega)
          obtain ⟨N, hN⟩ : ∃ N, N = lnum v := ⟨_, rfl⟩
          rw [← hN] at hs1 hq ⊢
          have HN : Hid ((lnum v : Int) = (N : Int)) := Lib.hid (by rw [hN])
          obtain ⟨c, hc⟩ : ∃ c, c = N - sk := ⟨_, rfl⟩
          rw [← hc]
          have hcm : c ≤ mst K := by omega
          have HCM := Lib.hid hcm
          obtain ⟨o1, o2, o3, o4⟩ := code_ok hK hcm
          have HR : Hid ((if c ≤ mst K then Value.tuple #[.int .i64 (cP K c), .int .i64 (cV K c), .int .i64 (cN K c), .bool true] else .tuple #[.int .i64 0, .int .i64 0, .int .i64 0, .bool false]) = .tuple #[.int .i64 (cP K c), .int .i64 (cV K c), .int .i64 (cN K c), .bool true]) := Lib.hid (if_pos hcm)
          have hcx : (N : Int) - (sk : Int) = (c : Int) := by omega
          have HCX := Lib.hid hcx
          have hcl : c ≤ 6000 := by omega
          have hNl : N ≤ 6002 := by omega
          have hLc : B ++ lcode K c = (B ++ bitsN (cP K c) 0 ++ bitsN 1 1) ++ bitsN (cN K c) (cV K c) := by
            unfold lcode
            rw [bitsN_one, bitsN_zero]
            simp only [List.append_assoc]
            rfl
          rw [hLc]
          clear hLc
          obtain ⟨P, hP⟩ : ∃ P, P = cP K c := ⟨_, rfl⟩
          obtain ⟨V, hV⟩ : ∃ V, V = cV K c := ⟨_, rfl⟩
          obtain ⟨M, hM⟩ : ∃ M, M = cN K c := ⟨_, rfl⟩
          have HR2 : Hid ((if c ≤ mst K then Value.tuple #[.int .i64 (cP K c), .int .i64 (cV K c), .int .i64 (cN K c), .bool true] else .tuple #[.int .i64 0, .int .i64 0, .int .i64 0, .bool false]) = .tuple #[.int .i64 P, .int .i64 V, .int .i64 M, .bool true]) := Lib.hid (by rw [hP, hV, hM]; exact if_pos hcm)
          clear HR
          rw [← hP, ← hV, ← hM]
          rw [← hP] at o1
          rw [← hV] at o4
          rw [← hV, ← hM] at o2
          rw [← hM] at o3
          have P1 := Lib.hid (put_fit (B := B) (N := P) (V := 0) (by omega) (Nat.two_pow_pos _))
          have P2 := Lib.hid (put_fit (B := B ++ bitsN P 0) (N := 1) (V := 1) (by omega) (by decide))
          have P3 := Lib.hid (put_fit (B := B ++ bitsN P 0 ++ bitsN 1 1) (N := M) (V := V) (by omega) o2)
          obtain ⟨B1, hB1⟩ : ∃ B1, B1 = B ++ bitsN P 0 := ⟨_, rfl⟩
          rw [← hB1] at P1 P2 P3 ⊢
          have hL1 : B1.length ≤ 2 ^ 39 + 20 := by rw [hB1, List.length_append, bitsN_length]; omega
          obtain ⟨B2, hB2⟩ : ∃ B2, B2 = B1 ++ bitsN 1 1 := ⟨_, rfl⟩
          rw [← hB2] at P2 P3 ⊢
          have hL2 : B2.length ≤ 2 ^ 39 + 30 := by rw [hB2, List.length_append, bitsN_length]; omega
          obtain ⟨B3, hB3⟩ : ∃ B3, B3 = B2 ++ bitsN M V := ⟨_, rfl⟩
          rw [← hB3] at P3 ⊢
          have HK2 := Lib.hid (show (L.set j (aQwr b' B3))[k]? = some (aQco b K (l + 1) sk) by rw [List.getElem?_set_ne (fun h => hkj h.symm)]; exact HK.out)
          clear hP hV hM hB1 hB2 hB3 hc hN hcm hcx hE e1 e2 e3 e4 hq hLB hz o2
          rcases hsk with rfl | rfl
          · clear h1 hvs
            go_enter Try.func16, Try.ntmps16
            go_wp2_with (first | (go_at_call 44; (with_reducible refine (has_as H.out k HK.out hK hv1 hv2 HZ.out (by omega) HV.out HI.out).mono ?_); rintro e w1 ⟨rfl, h1⟩; obtain ⟨k0, k1, k2, -, -, -⟩ := aQco_cells h1 k HK.out))
            go_quiet (first | (go_at_call 46; exact Calls.quiet_of_same (number_as HNA.out HZ.out HN.out _)) | (go_at_call 45; exact Calls.quiet_of (parts_as (h1.drewN _) k HK.out hK c (by omega) (by have := HCX.out; omega) HR2.out)))
            go_wp2_with (first | (go_at_call 47; (with_reducible refine (qput_as (h1.drewN nq) j HJ.out hB40 _ _ (by decide) (by decide) P1.out).mono ?_); rintro e w4 ⟨rfl, h4⟩; clear h1) | (go_at_call 47; (with_reducible refine (qput_as h4 j (set_at HJ.out _) (by omega) _ _ (by decide) (by decide) P2.out).mono ?_); rintro e w5 ⟨rfl, h5⟩; clear h4; rw [set_set] at h5) | (go_at_call 47; (with_reducible refine (qput_as h5 j (set_at HJ.out _) (by omega) _ _ (by omega) (by omega) P3.out).mono ?_); rintro e w6 ⟨rfl, h6⟩; clear h5; rw [set_set] at h6) | (go_at_call 48; (with_reducible refine (qafter_any h6 k HK2.out hK v HNB.out hl16).mono ?_); rintro e w7 ⟨rfl, h7⟩; clear h6))
            exact bodyPost_ret (results_tmp rfl _ _ _) rfl ⟨rfl, h7⟩
          · have t1 : (v == 1) = false := by simp; omega
            have t2 : (v == -1) = false := by simp; omega
            clear h1 hvs
            go_enter Try.func16, Try.ntmps16
            go_wp2_with (first | (go_at_call 44; (with_reducible refine (has_as H.out k HK.out hK hv1 hv2 HZ.out (by omega) HV.out HI.out).mono ?_); rintro e w1 ⟨rfl, h1⟩; obtain ⟨k0, k1, k2, -, -, -⟩ := aQco_cells h1 k HK.out))
            go_quiet (first | (go_at_call 46; exact Calls.quiet_of_same (number_as HNA.out HZ.out HN.out _)) | (go_at_call 45; exact Calls.quiet_of (parts_as (h1.drewN _) k HK.out hK c (by omega) (by have := HCX.out; omega) HR2.out)))
            go_wp2_with (first | (go_at_call 47; (with_reducible refine (qput_as (h1.drewN nq) j HJ.out hB40 _ _ (by decide) (by decide) P1.out).mono ?_); rintro e w4 ⟨rfl, h4⟩; clear h1) | (go_at_call 47; (with_reducible refine (qput_as h4 j (set_at HJ.out _) (by omega) _ _ (by decide) (by decide) P2.out).mono ?_); rintro e w5 ⟨rfl, h5⟩; clear h4; rw [set_set] at h5) | (go_at_call 47; (with_reducible refine (qput_as h5 j (set_at HJ.out _) (by omega) _ _ (by omega) (by omega) P3.out).mono ?_); rintro e w6 ⟨rfl, h6⟩; clear h5; rw [set_set] at h6) | (go_at_call 48; (with_reducible refine (qafter_any h6 k HK2.out hK v HNB.out hl16).mono ?_); rintro e w7 ⟨rfl, h7⟩; clear h6))
            exact bodyPost_ret (results_tmp rfl _ _ _) rfl ⟨rfl, h7⟩

theorem qlput_as {W w : World} {L : List AObj} {F : List (Nat × Obj)} {b b' K l sk : Nat} {B : List Bool} (h : Hp W w L F) (k j : Nat) (hkj : k ≠ j) (hk : L[k]? = some (aQco b K l sk)) (hj : L[j]? = some (aQwr b' B)) (hb : K ≤ 6 ∧ l ≤ 16 ∧ (sk = 0 ∨ sk = 2) ∧ B.length ≤ 2 ^ 39) (v : Int) (hv1 : -9223372036854775808 ≤ v) (hv2 : v < 9223372036854775808)
    {e0 : Int} {B' : List Bool} {K' l' s' : Nat} (hx : lpE K l sk v = e0 ∧ lpB B K l sk v = B' ∧ lpK K l sk v = K' ∧ lpL K l sk v = l' ∧ lpS K l sk v = s') :
    Calls Try.prog 16 #[.pointer (some ⟨b, 0, none⟩), .pointer (some ⟨b', 0, none⟩), .int .i64 v] w fun e w' => e = .returned (.int .i64 e0) ∧ Hp W w' ((L.set j (aQwr b' B')).set k (aQco b K' l' s')) F := by
  obtain ⟨rfl, rfl, rfl, rfl, rfl⟩ := hx
  exact qlput_any h k j hkj hk hj hb.1 hb.2.1 hb.2.2.1 hb.2.2.2 v hv1 hv2

end Go.Proofs.Ytmlkkeabgnhhnaa
