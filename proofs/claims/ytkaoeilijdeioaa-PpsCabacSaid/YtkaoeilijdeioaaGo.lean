/- The program's Exp-Golomb codes: what each function does, at every state. -/
import Derived.Test.YtkaoeilijdeioaaGz
import Derived.WalkMore
namespace Go.Proofs.Ytkaoeilijdeioaa
open Go.RowKit
set_option linter.unusedVariables false
set_option maxRecDepth 100000
set_option linter.unusedSimpArgs false

theorem length_any {W w : World} {L : List AObj} {F : List (Nat × Obj)} (h : Hp W w L F) (k : Nat) {b : Nat} {s : ByteArray} {i : Nat} (hk : L[k]? = some (aRd b s i)) :
    Calls Try.prog 64 #[.pointer (some ⟨b, 0, none⟩)] w fun e w' => e = .returned (.tuple #[.int .i64 (lnN s i : Int), .int .i64 (lnE s i)]) ∧ Hp W w' L F := by
  have H := Lib.hid h; clear h
  have HK := Lib.hid hk; clear hk
  go_enter Try.func64, Try.ntmps64
  go_wp2
  go_step3
  go_wp2_with (go_at_call 75; refine (copy_any H.out k HK.out).mono ?_; rintro e w1 ⟨cb, rfl, hS⟩)
  have HS := Lib.hid hS; clear hS
  go_step3
  go_wp2
  go_loopw [5] (fun n' wr => ∃ z : Nat, n' = .int .i64 z ∧ z < 32 ∧ Zs s i z ∧ Hp W wr (aRd cb s (i + z) :: L) F) (fun n' _ => 32 - (intOf n').toNat)
  case atStart => exact ⟨0, rfl, by omega, Zs.zero s i, by simpa using HS.out⟩
  case round =>
    obtain ⟨z, rfl, hz, hzs, hS⟩ := hrel
    have HZ := Lib.hid hzs; clear hzs
    by_cases h5 : uE s (i + z) 1 = 0
    · have i1 : uI s (i + z) 1 = i + (z + 1) := by unfold uI; rw [if_pos h5]; show i + z + 1 = _; omega
      have hv := uV_one_le s (i + z)
      by_cases h0 : uV s (i + z) 1 = 0
      · by_cases h31 : z = 31
        · obtain ⟨r1, r2⟩ := lnE_form (s := s) (i := i) (by have := HZ.out.next h5 h0; rwa [h31] at this)
          clear hv
          subst h31
          go_wp2_with (first | (go_at_call 76; refine (bit_any (by assumption) _ (by first | exact at0 | exact at1 | exact at2 | exact at3)).mono ?_; rintro e w1 ⟨rfl, hS⟩; simp only [set0, set1, set2, set3, i1] at hS))
          rw [Exit.noGoto_ret]
          exact bodyPost_ret (results_tmp2 rfl _ _ _) rfl ⟨by rw [r1, r2]; rfl, (by assumption : Hp _ _ _ _).tail⟩
        · have hz2 : decide ((31 : Int) < (z : Int) + 1) = false := by simp; omega
          clear hv
          go_wp2_with (first | (go_at_call 76; refine (bit_any (by assumption) _ (by first | exact at0 | exact at1 | exact at2 | exact at3)).mono ?_; rintro e w1 ⟨rfl, hS⟩; simp only [set0, set1, set2, set3, i1] at hS))
          go_roundw
          case rel => exact ⟨z + 1, rfl, by omega, HZ.out.next h5 h0, by assumption⟩
          case measure => simp [intOf]; omega
      · obtain ⟨r1, r2⟩ := lnE_ok HZ.out hz h5 h0
        have h1 : uV s (i + z) 1 = 1 := by omega
        clear hv h0
        go_wp2_with (first | (go_at_call 76; refine (bit_any (by assumption) _ (by first | exact at0 | exact at1 | exact at2 | exact at3)).mono ?_; rintro e w1 ⟨rfl, hS⟩; simp only [set0, set1, set2, set3, i1] at hS))
        rw [Exit.noGoto_ret]
        exact bodyPost_ret (results_tmp2 rfl _ _ _) rfl ⟨by rw [r1, r2]; rfl, (by assumption : Hp _ _ _ _).tail⟩
    · obtain ⟨r1, r2⟩ := lnE_short HZ.out hz h5
      have h5' := uE_one5 h5
      clear h5
      go_wp2_with (first | (go_at_call 76; refine (bit_any (by assumption) _ (by first | exact at0 | exact at1 | exact at2 | exact at3)).mono ?_; rintro e w1 ⟨rfl, hS⟩; simp only [set0, set1, set2, set3] at hS))
      rw [Exit.noGoto_ret]
      exact bodyPost_ret (results_tmp2 rfl _ _ _) rfl ⟨by rw [r1, r2, h5']; rfl, (by assumption : Hp _ _ _ _).tail⟩

theorem gue_any {W w : World} {L : List AObj} {F : List (Nat × Obj)} (h : Hp W w L F) (k : Nat) {b : Nat} {s : ByteArray} {i : Nat} (hk : L[k]? = some (aRd b s i)) :
    Calls Try.prog 40 #[.pointer (some ⟨b, 0, none⟩)] w fun e w' => e = .returned (.tuple #[.int .u64 (ueV s i), .int .i64 (ueE s i)]) ∧ Hp W w' (L.set k (aRd b s (ueI s i))) F := by
  have HK := Lib.hid hk
  by_cases h0 : lnE s i = 0
  · obtain ⟨e1, e2, e3, e4⟩ := ueE_yes h0
    rw [e2]
    have Q := Lib.hid (And.intro e1 (And.intro e3 e4)); clear e1 e2 e3 e4
    generalize hn : lnN s i = n at *
    by_cases h1 : uE s i (n : Int) = 0
    · have b1 : 1 ≤ uV s i (n : Int) := (Q.out.2.1 h1).2
      have b2 : uV s i (n : Int) < 18446744073709551616 := Nat.lt_of_lt_of_le uV_lt (by
        have : n ≤ 63 := by rw [← hn]; unfold lnN; have := (lnE_zero_gz h0).1; rw [if_pos h0]; omega
        calc 2 ^ (n : Int).toNat ≤ 2 ^ 64 := Nat.pow_le_pow_right (by omega) (by omega)
          _ = 18446744073709551616 := by decide)
      have H := Lib.hid h; clear h hk
      go_enter Try.func40, Try.ntmps40
      go_wp2_with (first | (go_at_call 64; refine (length_any H.out k HK.out).mono ?_; rintro e w1 ⟨rfl, hS⟩; simp only [hn, h0] at hS ⊢) | (go_at_call 49; refine (u_any hS k HK.out n).mono ?_; rintro e w2 ⟨rfl, hS2⟩))
      refine bodyPost_ret (results_tmp2 rfl _ _ _) rfl ⟨?_, hS2⟩
      rw [Q.out.1, h1, (Q.out.2.1 h1).1, Int.natCast_sub b1]; rfl
    · have h1' : (uE s i (n : Int) == 0) = false := by simp [h1]
      have H := Lib.hid h; clear h hk
      have h1n := Lib.hid h1; clear h1
      go_enter Try.func40, Try.ntmps40
      go_wp2_with (first | (go_at_call 64; refine (length_any H.out k HK.out).mono ?_; rintro e w1 ⟨rfl, hS⟩; simp only [hn, h0] at hS ⊢) | (go_at_call 49; refine (u_any hS k HK.out n).mono ?_; rintro e w2 ⟨rfl, hS2⟩))
      refine bodyPost_ret (results_tmp2 rfl _ _ _) rfl ⟨?_, hS2⟩
      rw [Q.out.1, Q.out.2.2 h1n.out]; rfl
  · obtain ⟨e1, e2, e3⟩ := ueE_not h0
    have h0' : (lnE s i == 0) = false := by simp [h0]
    rw [e1, e2, e3, set_same hk]
    have H := Lib.hid h; clear h hk h0 e1 e2 e3
    go_enter Try.func40, Try.ntmps40
    go_wp2_with (first | (go_at_call 64; refine (length_any H.out k HK.out).mono ?_; rintro e w1 ⟨rfl, hS⟩))
    exact bodyPost_ret (results_tmp2 rfl _ _ _) rfl ⟨rfl, hS⟩

theorem gue_nil (w : World) : Calls Try.prog 40 #[.pointer none] w fun e w' => e = .returned (.tuple #[.int .u64 0, .int .i64 1]) ∧ w = w' := by
  go_enter Try.func40, Try.ntmps40
  go_wp2
  exact bodyPost_ret (results_tmp2 rfl _ _ _) rfl ⟨rfl, rfl⟩

theorem len64_ue (v c : Nat) (hv : v ≤ 4294967294) (hc : c = ueN v + 1) (w : World) :
    Calls Try.prog 61 #[.int .u64 ((v : Int) + 1)] w fun e w' => e = .returned (.int .i64 (c : Int)) ∧ w = w' := by
  refine (Try.bits_Len64 ((v : Int) + 1) w (by omega) (by omega)).mono ?_
  rintro e w' ⟨rfl, rfl⟩
  rw [show ((v : Int) + 1).toNat = v + 1 by omega, bitLen_ue hv, hc]
  exact ⟨rfl, rfl⟩

theorem put_ue {W w : World} {L : List AObj} {F : List (Nat × Obj)} (h : Hp W w L F) (k : Nat) {b : Nat} {B : List Bool} (hk : L[k]? = some (aWr b B)) (hB : B.length ≤ 2 ^ 40) (v c : Nat) (hv : v ≤ 4294967294) (hc : c = ueN v + 1) :
    Calls Try.prog 22 #[.pointer (some ⟨b, 0, none⟩), .int .i64 (2 * (c : Int) - 1), .int .u64 ((v : Int) + 1)] w fun e w' => e = .returned (.int .i64 0) ∧ Hp W w' (L.set k (aWr b (B ++ ueB v))) F := by
  rw [show 2 * (c : Int) - 1 = ((2 * ueN v + 1 : Nat) : Int) by omega, show (v : Int) + 1 = ((v + 1 : Nat) : Int) by omega]
  exact put_good h k hk hB _ _ (by have := ueN_le hv; omega) (ueB_lt v)

theorem gput_ue {W w : World} {L : List AObj} {F : List (Nat × Obj)} (h : Hp W w L F) (k : Nat) {b : Nat} {B : List Bool} (hk : L[k]? = some (aWr b B)) (hB : B.length ≤ 2 ^ 40) (v : Nat) (hv : v < 18446744073709551616) :
    Calls Try.prog 21 #[.pointer (some ⟨b, 0, none⟩), .int .u64 v] w fun e w' => e = .returned (.int .i64 (pueE v)) ∧ Hp W w' (L.set k (aWr b (pueB B v))) F := by
  by_cases c1 : 4294967294 < v
  · have e1 : pueE v = 3 := if_pos c1
    have e2 : pueB B v = B := by unfold pueB; rw [e1]; rfl
    have hd : decide ((4294967294 : Int) < v) = true := by simp; omega
    rw [e1, e2, set_same hk]
    have H := Lib.hid h; clear h hk
    go_enter Try.func21, Try.ntmps21
    go_wp2
    exact bodyPost_ret (results_tmp rfl _ _ _) rfl ⟨rfl, H.out⟩
  · have e1 : pueE v = 0 := if_neg c1
    have e2 : pueB B v = B ++ ueB v := by unfold pueB; rw [if_pos e1]
    have hd : decide ((4294967294 : Int) < v) = false := by simp; omega
    have hv2 : v ≤ 4294967294 := by omega
    rw [e1, e2]
    obtain ⟨c, hc⟩ : ∃ c, c = ueN v + 1 := ⟨_, rfl⟩
    have hc32 : 1 ≤ c ∧ c ≤ 32 := by have := ueN_le hv2; omega
    have H := Lib.hid h; clear h e1 e2 c1
    have HC := Lib.hid hc; clear hc
    have HK := Lib.hid hk; clear hk
    go_enter Try.func21, Try.ntmps21
    go_wp2_with (first | (go_at_call 61; refine (len64_ue v c hv2 HC.out _).mono ?_; rintro e w1 ⟨rfl, rfl⟩) | (go_at_call 22; refine (put_ue (Hp.drewN H.out _) k HK.out hB v c hv2 HC.out).mono ?_; rintro e w1 ⟨rfl, hS⟩) | (go_at_call 22; refine (put_ue H.out k HK.out hB v c hv2 HC.out).mono ?_; rintro e w1 ⟨rfl, hS⟩))
    exact bodyPost_ret (results_tmp rfl _ _ _) rfl ⟨rfl, hS⟩

theorem gput_ue_nil (v : Int) (w : World) : Calls Try.prog 21 #[.pointer none, .int .u64 v] w fun e w' => e = .returned (.int .i64 1) ∧ w = w' := by
  go_enter Try.func21, Try.ntmps21
  go_wp2
  exact bodyPost_ret (results_tmp rfl _ _ _) rfl ⟨rfl, rfl⟩

end Go.Proofs.Ytkaoeilijdeioaa
