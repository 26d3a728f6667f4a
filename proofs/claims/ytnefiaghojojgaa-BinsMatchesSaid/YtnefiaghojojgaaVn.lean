/- The reference's Escape, Mvd, Type. -/
import Derived.Test.YtnefiaghojojgaaVq
namespace Go.Proofs.Ytnefiaghojojgaa
open Go.RowKit Go.Shelf
set_option linter.unusedVariables false
set_option maxRecDepth 100000
set_option linter.unusedSimpArgs false

theorem digB_zeros (x b : Nat) (h : x < 2 ^ b) : ∀ a, digB x (a + b) = List.replicate a (-1, 0) ++ digB x b
  | 0 => by rw [Nat.zero_add]; rfl
  | a + 1 => by
    rw [show a + 1 + b = (a + b) + 1 by omega, digB, digB_zeros x b h a]
    have : x / 2 ^ (a + b) = 0 := Nat.div_eq_of_lt (Nat.lt_of_lt_of_le h (Nat.pow_le_pow_right (by omega) (by omega)))
    rw [this]
    rfl
theorem rep_snoc (k : Nat) : List.replicate (k + 1) ((-1, 0) : Int × Int) = List.replicate k (-1, 0) ++ [(-1, 0)] := List.replicate_succ'
section
variable {W w : World} {L : List AObj} {F : List (Nat × Obj)}
set_option maxHeartbeats 8000000 in
theorem qescape_any (h : Hp W w L F) (v : Nat) (k : Int) (hv : v < 18446744073709551616) :
    Calls Try.prog 29 #[.int .u64 v, .int .i64 k] w fun e w' => ∃ y, e = .returned (.tuple #[y, .int .i64 (escE v k)]) ∧ Hp W w' (aBn y (escB v k) :: L) F := by
  have H := Lib.hid h
  clear h
  by_cases h1 : 0 ≤ k ∧ k ≤ 8
  · obtain ⟨h1, h2⟩ := h1
    obtain ⟨K, rfl⟩ : ∃ K : Nat, k = K := ⟨k.toNat, by omega⟩
    obtain ⟨q, hq⟩ : ∃ q, q = v / 2 ^ K := ⟨_, rfl⟩
    obtain ⟨P, hP⟩ : ∃ P : Nat, P = 4294967295 * 2 ^ K := ⟨_, rfl⟩
    have eq : ((v : Int) / 2 ^ K) = (q : Int) := by rw [hq]; simp
    have hqv : q < 18446744073709551616 := by rw [hq]; exact Nat.lt_of_le_of_lt (Nat.div_le_self _ _) hv
    have hK8 : K ≤ 8 := by omega
    have hP2 : P < 18446744073709551616 := by
      have : 2 ^ K ≤ 2 ^ 8 := Nat.pow_le_pow_right (by omega) hK8
      have e : (2 : Nat) ^ 8 = 256 := by decide
      omega
    have eP : IntKind.u64.wrap (4294967295 * 2 ^ K) = (P : Int) := by
      have : (4294967295 * 2 ^ K : Int) = (P : Int) := by rw [hP]; simp
      rw [this]; exact w_u64 hP2
    have hPq : P ≤ v ↔ 4294967295 ≤ q := by rw [hP, hq, Nat.le_div_iff_mul_le (Nat.two_pow_pos K)]
    have HV := Lib.hid hv
    have HPQ := Lib.hid (And.intro hq (And.intro hP hPq))
    by_cases h3 : q ≤ 4294967294
    · have e1 : escE v K = 0 := if_neg (by rw [Int.toNat_natCast, ← hq]; omega)
      have e2 : escB v K = digB (q + 1) (2 * lgN q + 1) ++ digB v K := by unfold escB; rw [if_pos e1, Int.toNat_natCast, ← hq]
      obtain ⟨m, hm⟩ : ∃ m, m = lgN q := ⟨_, rfl⟩
      obtain ⟨b1, b2⟩ := lgN_bounds q
      rw [← hm] at b1 b2 e2
      obtain ⟨Q, hQ⟩ : ∃ Q, Q = q + 1 := ⟨_, rfl⟩
      rw [← hQ] at b1 b2 e2
      have eQ : (q : Int) + 1 = (Q : Int) := by omega
      have hQ64 : Q < 18446744073709551616 := by omega
      have HQ := Lib.hid hQ64
      have e3 : digB Q (2 * m + 1) = List.replicate m (-1, 0) ++ digB Q (m + 1) := by
        rw [show 2 * m + 1 = m + (m + 1) by omega]; exact digB_zeros _ _ b2 m
      rw [e3] at e2
      have hm31 : m ≤ 31 := by rw [hm]; exact lgN_le h3
      rw [e1, e2]
      obtain ⟨i0, hi, hz0, hz1, hz2⟩ := bin_info
      have z0 : decide ((P : Int) ≤ (v : Int)) = false := by simp; omega
      have z00 : decide (P ≤ v) = false := by simp; omega
      have HB := Lib.hid (And.intro b1 b2)
      clear e1 e2 e3 hq hP hPq hv hm b1 b2 hqv hQ hQ64 hP2
      go_enter Try.func29, Try.ntmps29
      go_wp2_with (fail)
      -- LOOPS: src/qesc.py
      go_loop [7] (fun i => ∃ c : Nat, c ≤ m + 1 ∧ i = .int .i64 c) (fun i => m + 1 - (intOf i).toNat)
      case atStart => exact ⟨0, by omega, rfl⟩
      case round =>
        obtain ⟨bt, hc, rfl⟩ := hrel
        obtain ⟨D, hD⟩ : ∃ D : Nat, D = Q / 2 ^ bt := ⟨_, rfl⟩
        have eD : ((Q : Int) / 2 ^ bt) = (D : Int) := by rw [hD]; simp
        by_cases hcm : bt ≤ m
        · have hD1 : 0 < D := by
            rw [hD]
            apply Nat.div_pos
            · have := HB.out.1; have h2 : 2 ^ bt ≤ 2 ^ m := Nat.pow_le_pow_right (by omega) hcm; omega
            · exact Nat.two_pow_pos bt
          clear hD
          go_wp2_with (fail)
          go_round
          case rel => exact ⟨bt + 1, by omega, by go_num⟩
          case measure => simp [intOf]; omega
        · have hbm : bt ≤ m + 1 := hc
          have hbm2 : m + 1 ≤ bt := by omega
          have hD0 : D = 0 := by rw [hD]; exact Nat.div_eq_of_lt (by have := HB.out.2; rw [show bt = m + 1 by omega]; omega)
          have eD0 : ((Q : Int) / 2 ^ bt) = 0 := by rw [eD, hD0]; rfl
          clear hD eD hD0 hcm hc
          go_wp2_with (fail)
          clear eD0
          have H0 := Lib.hid (H.out.sl_nil 27 2)
          go_loopw [8, 9] (fun o i wr => ∃ (k : Nat) (sp : Option Addr) (cap : Nat), k ≤ m ∧ i = .int .i64 ((k : Int) + 1) ∧ o = .slice sp k cap ∧ Hp W wr (aSl 27 2 (.slice sp k cap) k (bcs (List.replicate k (-1, 0))) :: L) F) (fun _ i _ => m + 1 - (intOf i).toNat)
          case atStart => exact ⟨0, none, 0, Nat.zero_le _, rfl, rfl, H0.out⟩
          case round =>
            obtain ⟨k, sp, cap, hk, rfl, rfl, h3⟩ := hrel
            have H3 := Lib.hid h3
            clear h3
            by_cases hkm : k < m
            · have hlt : (k : Int) + 1 < (bt : Int) := by omega
              go_wp2_with (first | (at_builtin; refine wpList_append_hp rfl _ _ 22 rfl 27 i0 (bvl (0, 0)) 2 16 Try.underlying22 hi hz0 hz1 hz2 rfl (by decide) (H3.out.lost _) 0 at0 rfl ⟨wr.heap.size, 0, none⟩ 1 1 (bcs [(-1, 0)]) rfl rfl ?c1 ?c2 ?c3 ?c4 ?_))
              case c1 => exact bin_new _ _ _ _
              case c2 => exact bcs_one _
              case c3 => unfold maxLen; omega
              case c4 => omega
              intro v2 w2 h4
              try simp only [set0] at h4
              obtain ⟨sp2, cap2, rfl, _, _⟩ := h4.sl_form 0 at0
              go_wp2_with (fail)
              go_roundw
              case rel => exact ⟨k + 1, sp2, cap2, by omega, by go_num, rfl, by rw [rep_snoc, bcs_append]; exact h4⟩
              case measure => simp [intOf]; omega
            · obtain rfl : k = m := by omega
              have hge : ¬ (k : Int) + 1 < (bt : Int) := by omega
              have eb : (bt : Int) - 1 = ((k + 1 : Nat) : Int) - 1 := by omega
              go_wp2_with (fail)
              go_loopw [8, 10] (fun o i wr => ∃ (j c : Nat) (pre : List (Int × Int)) (sp : Option Addr) (cap : Nat), j ≤ k + 1 ∧ c + j = k + k + 1 ∧ i = .int .i64 ((j : Int) - 1) ∧ o = .slice sp c cap ∧ Hid (digB Q (k + 1) = pre ++ digB Q j) ∧ Hp W wr (aSl 27 2 (.slice sp c cap) c (bcs (List.replicate k ((-1, 0) : Int × Int) ++ pre)) :: L) F) (fun _ i _ => (intOf i + 1).toNat)
              case atStart => exact ⟨k + 1, k, [], sp, cap, Nat.le_refl _, rfl, (by congr 1; omega), rfl, Lib.hid rfl, by rw [List.append_nil]; exact H3.out⟩
              case round =>
                obtain ⟨j, c, pre, sp, cap, hj, hcj, rfl, rfl, HD, h3⟩ := hrel
                cases j with
                | zero =>
                  have e : (((0 : Nat) : Int) - 1) = -1 := rfl
                  rw [e]
                  have hcn : c = k + k + 1 := hcj
                  have HD2 : Hid (pre = digB Q (k + 1)) := Lib.hid (by rw [HD.out]; simp [digB])
                  have h5 : Hp W wr (aSl 27 2 (.slice sp c cap) c (bcs (List.replicate k ((-1, 0) : Int × Int) ++ digB Q (k + 1))) :: L) F := by rw [← HD2.out]; exact h3
                  have H5 := Lib.hid h5
                  have HCN := Lib.hid hcn
                  have hcb : c ≤ 100 := by omega
                  clear h3 h5 hcn HD HD2 e hj hcj
                  go_wp2_with (fail)
                  have HC0 := HCN
                  clear HCN
                  go_loopw [8, 11] (fun o i wr => ∃ (j c' : Nat) (pre : List (Int × Int)) (sp : Option Addr) (cap : Nat), j ≤ K ∧ c' + j = c + K ∧ i = .int .i64 ((j : Int) - 1) ∧ o = .slice sp c' cap ∧ Hid (digB v (K) = pre ++ digB v j) ∧ Hp W wr (aSl 27 2 (.slice sp c' cap) c' (bcs ((List.replicate k ((-1, 0) : Int × Int) ++ digB Q (k + 1)) ++ pre)) :: L) F) (fun _ i _ => (intOf i + 1).toNat)
                  case atStart => exact ⟨K, c, [], sp, cap, Nat.le_refl _, rfl, rfl, rfl, Lib.hid rfl, by rw [List.append_nil]; exact H5.out⟩
                  case round =>
                    obtain ⟨j, c', pre, sp, cap, hj, hcj, rfl, rfl, HD, h3⟩ := hrel
                    cases j with
                    | zero =>
                      have e : (((0 : Nat) : Int) - 1) = -1 := rfl
                      rw [e]
                      have hcn : c' = c + K := hcj
                      have HD2 : Hid (pre = digB v (K)) := Lib.hid (by rw [HD.out]; simp [digB])
                      have h5 : Hp W wr (aSl 27 2 (.slice sp c' cap) c' (bcs ((List.replicate k ((-1, 0) : Int × Int) ++ digB Q (k + 1)) ++ digB v (K))) :: L) F := by rw [← HD2.out]; exact h3
                      have H5 := Lib.hid h5
                      have HCN := Lib.hid hcn
                      have hcb : c' ≤ 200 := by omega
                      clear h3 h5 hcn HD HD2 e hj hcj
                      go_wp2_with (fail)
                      refine bodyPost_ret (results_tmp2 rfl _ _ _) rfl ⟨.slice sp c' cap, rfl, ?_⟩
                      have h6 := H5.out
                      have e : c' = (List.replicate k ((-1, 0) : Int × Int) ++ digB Q (k + 1) ++ digB v K).length := by rw [HCN.out, HC0.out, List.length_append, List.length_append, List.length_replicate, digB_length, digB_length]; omega
                      unfold aBn
                      rw [← e]
                      exact h6
                    | succ j =>
                      have e : (((j + 1 : Nat) : Int) - 1) = (j : Int) := by omega
                      rw [e]
                      clear e
                      obtain ⟨dd, hdd⟩ : ∃ dd : Nat, dd = v / 2 ^ j % 2 := ⟨_, rfl⟩
                      have db : bits .and .u64 ((v : Int) / 2 ^ j) 1 % 256 = (dd : Int) := by rw [dig_bit HV.out, hdd]
                      have HDD := Lib.hid hdd
                      have H3 := Lib.hid h3
                      have hj60 : j < 60 := by omega
                      have hcb : c' ≤ 200 := by omega
                      clear h3 hdd
                      go_wp2_with (first | (at_builtin; refine wpList_append_hp rfl _ _ 22 rfl 27 i0 (bvl (0, 0)) 2 16 Try.underlying22 hi hz0 hz1 hz2 rfl (by decide) (H3.out.lost _) 0 at0 rfl ⟨wr.heap.size, 0, none⟩ 1 1 (bcs [(-1, (dd : Int))]) rfl rfl ?c1 ?c2 ?c3 ?c4 ?_))
                      case c1 => exact bin_new _ _ _ _
                      case c2 => exact bcs_one _
                      case c3 => unfold maxLen; omega
                      case c4 => omega
                      intro v2 w2 h4
                      try simp only [set0] at h4
                      obtain ⟨sp2, cap2, rfl, _, _⟩ := h4.sl_form 0 at0
                      go_wp2_with (fail)
                      go_roundw
                      case rel => exact ⟨j, c' + 1, pre ++ [(-1, (dd : Int))], sp2, cap2, by omega, by omega, rfl, rfl, Lib.hid (by rw [HD.out, HDD.out]; simp [digB]), by have h5 := h4; simp only [bcs_append, List.append_assoc] at h5 ⊢; exact h5⟩
                      case measure => simp [intOf]
                | succ j =>
                  have e : (((j + 1 : Nat) : Int) - 1) = (j : Int) := by omega
                  rw [e]
                  clear e
                  obtain ⟨dd, hdd⟩ : ∃ dd : Nat, dd = Q / 2 ^ j % 2 := ⟨_, rfl⟩
                  have db : bits .and .u64 ((Q : Int) / 2 ^ j) 1 % 256 = (dd : Int) := by rw [dig_bit HQ.out, hdd]
                  have HDD := Lib.hid hdd
                  have H3 := Lib.hid h3
                  have hj60 : j < 60 := by omega
                  have hcb : c ≤ 100 := by omega
                  clear h3 hdd
                  go_wp2_with (first | (at_builtin; refine wpList_append_hp rfl _ _ 22 rfl 27 i0 (bvl (0, 0)) 2 16 Try.underlying22 hi hz0 hz1 hz2 rfl (by decide) (H3.out.lost _) 0 at0 rfl ⟨wr.heap.size, 0, none⟩ 1 1 (bcs [(-1, (dd : Int))]) rfl rfl ?c1 ?c2 ?c3 ?c4 ?_))
                  case c1 => exact bin_new _ _ _ _
                  case c2 => exact bcs_one _
                  case c3 => unfold maxLen; omega
                  case c4 => omega
                  intro v2 w2 h4
                  try simp only [set0] at h4
                  obtain ⟨sp2, cap2, rfl, _, _⟩ := h4.sl_form 0 at0
                  go_wp2_with (fail)
                  go_roundw
                  case rel => exact ⟨j, c + 1, pre ++ [(-1, (dd : Int))], sp2, cap2, by omega, by omega, rfl, rfl, Lib.hid (by rw [HD.out, HDD.out]; simp [digB]), by have h5 := h4; simp only [bcs_append, List.append_assoc] at h5 ⊢; exact h5⟩
                  case measure => simp [intOf]
    · have e1 : escE v K = 3 := if_pos (by rw [Int.toNat_natCast, ← hq]; omega)
      have e2 : escB v K = [] := by unfold escB; rw [e1]; rfl
      rw [e1, e2]
      have z0 : decide ((P : Int) ≤ (v : Int)) = true := by simp; omega
      have z00 : decide (P ≤ v) = true := by simp; omega
      clear e1 e2 hq hP hPq hv
      go_enter Try.func29, Try.ntmps29
      go_wp2_with (fail)
      exact bodyPost_ret (results_tmp2 rfl _ _ _) rfl ⟨.slice none 0 0, rfl, H.out.sl_nil _ _⟩
  · have e1 : escE v k = 3 := if_pos (by omega)
    have e2 : escB v k = [] := by unfold escB; rw [e1]; rfl
    rw [e1, e2]
    clear e1 e2
    by_cases h2 : k < 0
    · clear h1
      go_enter Try.func29, Try.ntmps29
      go_wp2_with (fail)
      exact bodyPost_ret (results_tmp2 rfl _ _ _) rfl ⟨.slice none 0 0, rfl, H.out.sl_nil _ _⟩
    · have h3 : 8 < k := by omega
      clear h1
      go_enter Try.func29, Try.ntmps29
      go_wp2_with (fail)
      exact bodyPost_ret (results_tmp2 rfl _ _ _) rfl ⟨.slice none 0 0, rfl, H.out.sl_nil _ _⟩
end

end Go.Proofs.Ytnefiaghojojgaa
