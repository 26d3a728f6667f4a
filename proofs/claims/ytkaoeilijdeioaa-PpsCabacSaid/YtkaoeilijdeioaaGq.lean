/- The reference's Exp-Golomb codes: they say what the program's say. -/
import Derived.Test.YtkaoeilijdeioaaGp
namespace Go.Proofs.Ytkaoeilijdeioaa
open Go.RowKit
set_option linter.unusedVariables false
set_option maxRecDepth 100000
set_option linter.unusedSimpArgs false

theorem qback_any {W w : World} {L : List AObj} {F : List (Nat × Obj)} (h : Hp W w L F) (k : Nat) {b : Nat} {s : ByteArray} {i : Nat} (hk : L[k]? = some (aQrd b s i)) (j : Nat) (hj : j ≤ 8 * s.size) (e0 : Int) :
    Calls Try.prog 78 #[.pointer (some ⟨b, 0, none⟩), .int .i64 j, .int .i64 e0] w fun e w' => e = .returned (.tuple #[.int .u64 0, .int .i64 e0]) ∧ Hp W w' (L.set k (aQrd b s j)) F := by
  obtain ⟨h1, h2, h3⟩ := h.qrd k hk
  obtain ⟨c0, c1, f0, f1⟩ := cells_two h1
  have H := Lib.hid h; clear h h1
  have HK := Lib.hid hk; clear hk
  go_enter Try.func78, Try.ntmps78
  go_wp2
  exact bodyPost_ret (results_tmp2 rfl _ _ _) rfl ⟨rfl, H.out.qrd_set k HK.out 0 j hj⟩

theorem qbit_at {W w : World} {L : List AObj} {F : List (Nat × Obj)} {k : Nat} {b : Nat} {s : ByteArray} {i j : Nat} {x : AObj} (hk : L[k]? = some x) (h : Hp W w (L.set k (aQrd b s j)) F) :
    Calls Try.prog 77 #[.pointer (some ⟨b, 0, none⟩)] w fun e w' => e = .returned (.tuple #[.int .u8 (uV s j 1), .int .i64 (uE s j 1)]) ∧ Hp W w' (L.set k (aQrd b s (uI s j 1))) F := by
  have := qbit_any h k (set_at hk _)
  rwa [set_set] at this
theorem qu_at {W w : World} {L : List AObj} {F : List (Nat × Obj)} {k : Nat} {b : Nat} {s : ByteArray} {j : Nat} {x : AObj} (hk : L[k]? = some x) (h : Hp W w (L.set k (aQrd b s j)) F) (n : Int) :
    Calls Try.prog 69 #[.pointer (some ⟨b, 0, none⟩), .int .i64 n] w fun e w' => e = .returned (.tuple #[.int .u64 (uV s j n), .int .i64 (uE s j n)]) ∧ Hp W w' (L.set k (aQrd b s (uI s j n))) F := by
  have := qu_any h k (set_at hk _) n
  rwa [set_set] at this
theorem qback_at {W w : World} {L : List AObj} {F : List (Nat × Obj)} {k : Nat} {b : Nat} {s : ByteArray} {j : Nat} {x : AObj} (hk : L[k]? = some x) (h : Hp W w (L.set k (aQrd b s j)) F) (i : Nat) (hi : i ≤ 8 * s.size) (e0 : Int) :
    Calls Try.prog 78 #[.pointer (some ⟨b, 0, none⟩), .int .i64 i, .int .i64 e0] w fun e w' => e = .returned (.tuple #[.int .u64 0, .int .i64 e0]) ∧ Hp W w' (L.set k (aQrd b s i)) F := by
  have := qback_any h k (set_at hk _) i hi e0
  rwa [set_set] at this

theorem two_pow_z {z : Nat} (h : z < 32) : ∃ P : Nat, P = 2 ^ z ∧ 1 ≤ P ∧ P ≤ 2147483648 ∧ IntKind.u64.wrap ((2 : Int) ^ z) = (P : Int) := by
  have h1 : 2 ^ z ≤ 2 ^ 31 := Nat.pow_le_pow_right (by omega) (by omega)
  have e31 : (2 : Nat) ^ 31 = 2147483648 := by decide
  have h2 := Nat.one_le_two_pow (n := z)
  refine ⟨2 ^ z, rfl, h2, by omega, ?_⟩
  rw [show ((2 : Int) ^ z) = ((2 ^ z : Nat) : Int) by simp, w_u64 (by omega)]

theorem qgue_any {W w : World} {L : List AObj} {F : List (Nat × Obj)} (h : Hp W w L F) (k : Nat) {b : Nat} {s : ByteArray} {i : Nat} (hk : L[k]? = some (aQrd b s i)) :
    Calls Try.prog 70 #[.pointer (some ⟨b, 0, none⟩)] w fun e w' => e = .returned (.tuple #[.int .u64 (ueV s i), .int .i64 (ueE s i)]) ∧ Hp W w' (L.set k (aQrd b s (ueI s i))) F := by
  obtain ⟨h1, h2, h3⟩ := h.qrd k hk
  obtain ⟨c0, c1, f0, f1⟩ := cells_two h1
  have H := Lib.hid h; clear h h1
  have HK := Lib.hid hk; clear hk
  go_enter Try.func70, Try.ntmps70
  go_wp2
  go_loopw [5] (fun n' wr => ∃ z : Nat, n' = .int .i64 z ∧ z < 32 ∧ Zs s i z ∧ Hp W wr (L.set k (aQrd b s (i + z))) F) (fun n' _ => 32 - (intOf n').toNat)
  case atStart => exact ⟨0, rfl, by omega, Zs.zero s i, by rw [Nat.add_zero, set_same HK.out]; exact H.out⟩
  case round =>
    obtain ⟨z, rfl, hz, hzs, hS⟩ := hrel
    have HZ := Lib.hid hzs; clear hzs
    by_cases h5 : uE s (i + z) 1 = 0
    · have i1 : uI s (i + z) 1 = i + (z + 1) := by unfold uI; rw [if_pos h5]; show i + z + 1 = _; omega
      have hv := uV_one_le s (i + z)
      by_cases h0 : uV s (i + z) 1 = 0
      · by_cases h31 : z = 31
        · obtain ⟨r1, r2⟩ := lnE_form (s := s) (i := i) (by have := HZ.out.next h5 h0; rwa [h31] at this)
          obtain ⟨r3, r4, r5⟩ := ueE_not (s := s) (i := i) (by rw [r1]; decide)
          rw [r1] at r3
          have R := Lib.hid (And.intro r3 (And.intro r4 r5))
          clear hv r1 r2 r3 r4 r5
          subst h31
          go_wp2_with (first | (go_at_call 77; refine (qbit_at (i := i) HK.out hS).mono ?_; rintro e w1 ⟨rfl, hS2⟩) | (go_at_call 78; refine (qback_at HK.out hS2 i h3 4).mono ?_; rintro e w2 ⟨rfl, hS3⟩))
          exact bodyPost_ret (results_tmp2 rfl _ _ _) rfl ⟨by rw [R.out.1, R.out.2.1]; rfl, by rw [R.out.2.2]; exact hS3⟩
        · have hz2 : ((z : Int) + 1 == 32) = false := by simp; omega
          clear hv
          go_wp2_with (first | (go_at_call 77; refine (qbit_at (i := i) HK.out hS).mono ?_; rintro e w1 ⟨rfl, hS2⟩; simp only [i1] at hS2))
          go_roundw
          case rel => exact ⟨z + 1, by go_num, by omega, HZ.out.next h5 h0, hS2⟩
          case measure => simp [intOf]; omega
      · obtain ⟨r1, r2⟩ := lnE_ok HZ.out hz h5 h0
        have hv1 : uV s (i + z) 1 = 1 := by omega
        have hg : gz s i = z := gz_stop HZ.out hz (fun c => h0 c.2)
        have hle : i + z < 8 * s.size := uE_one.1 h5
        have hr := ueE_ref r1 (by rw [hg]; omega)
        rw [hg] at hr
        obtain ⟨r3, r4⟩ := hr
        have i2 : i + (z + 1) = i + z + 1 := by omega
        by_cases h6 : uE s (i + z + 1) (z : Int) = 0
        · obtain ⟨r5, r6⟩ := r4 (by rw [r3, h6])
          rw [h6] at r3
          obtain ⟨P, hP, p1, p2, p3⟩ := two_pow_z hz
          have hb : uV s (i + z + 1) (z : Int) < 2147483648 := Nat.lt_of_lt_of_le uV_lt (by rw [Int.toNat_natCast, ← hP]; exact p2)
          rw [← hP] at r6
          have hvz : (uV s (i + z + 1) (z : Int) : Int) < 2147483648 := by omega
          obtain ⟨V, hV⟩ : ∃ V, V = uV s (i + z + 1) (z : Int) := ⟨_, rfl⟩
          rw [← hV] at hvz r6
          have HR := Lib.hid (And.intro r3 (And.intro r5 r6))
          have R := Lib.hid (And.intro i1 i2); clear hv h0 hg hle r1 r2 r3 r4 r5 r6 i1 i2 hP hb
          have HV := Lib.hid hV.symm; clear hV
          go_wp2_with (first | (go_at_call 77; refine (qbit_at (i := i) HK.out hS).mono ?_; rintro e w1 ⟨rfl, hS2⟩; simp only [R.out.1, R.out.2] at hS2) | (go_at_call 69; refine (qu_at HK.out hS2 z).mono ?_; rintro e w2 ⟨rfl, hS3⟩; simp only [HV.out, h6] at hS3 ⊢))
          refine bodyPost_ret (results_tmp2 rfl _ _ _) rfl ⟨?_, by rw [← HR.out.2.1]; exact hS3⟩
          rw [HR.out.1, HR.out.2.2, show ((P + V - 1 : Nat) : Int) = (P : Int) + (V : Int) - 1 by omega]; rfl
        · have r7 := r3
          have n0 : ueE s i ≠ 0 := by rw [r3]; exact h6
          have e4 : ueV s i = 0 := ueV_not n0
          have e5 : ueI s i = i := by unfold ueI; rw [if_neg n0]
          have HR := Lib.hid (And.intro r3 (And.intro e4 e5))
          have h6' : (uE s (i + z + 1) (z : Int) == 0) = false := by simp [h6]
          have R := Lib.hid (And.intro i1 i2); clear hv h0 hg hle r1 r2 r3 r4 i1 i2 e4 e5 n0 h6 r7
          go_wp2_with (first | (go_at_call 77; refine (qbit_at (i := i) HK.out hS).mono ?_; rintro e w1 ⟨rfl, hS2⟩; simp only [R.out.1, R.out.2] at hS2) | (go_at_call 69; refine (qu_at HK.out hS2 z).mono ?_; rintro e w2 ⟨rfl, hS3⟩) | (go_at_call 78; refine (qback_at HK.out hS3 i h3 _).mono ?_; rintro e w2 ⟨rfl, hS4⟩))
          exact bodyPost_ret (results_tmp2 rfl _ _ _) rfl ⟨by rw [HR.out.1, HR.out.2.1]; rfl, by rw [HR.out.2.2]; exact hS4⟩
    · obtain ⟨r1, r2⟩ := lnE_short HZ.out hz h5
      have h5' := uE_one5 h5
      obtain ⟨r3, r4, r5⟩ := ueE_not (s := s) (i := i) (by rw [r1]; exact h5)
      rw [r1, h5'] at r3
      have R := Lib.hid (And.intro r3 (And.intro r4 r5))
      clear h5 r1 r2 r3 r4 r5
      go_wp2_with (first | (go_at_call 77; refine (qbit_at (i := i) HK.out hS).mono ?_; rintro e w1 ⟨rfl, hS2⟩) | (go_at_call 78; refine (qback_at HK.out hS2 i h3 5).mono ?_; rintro e w2 ⟨rfl, hS3⟩))
      exact bodyPost_ret (results_tmp2 rfl _ _ _) rfl ⟨by rw [R.out.1, R.out.2.1]; rfl, by rw [R.out.2.2]; exact hS3⟩

theorem ueB_split (v : Nat) : ueB v = bitsN (ueN v) 0 ++ bitsN (ueN v + 1) (v + 1) := by
  have h := (ueN_bounds v).2
  unfold ueB
  rw [show 2 * ueN v + 1 = ueN v + (ueN v + 1) by omega, bitsN_append, Nat.div_eq_of_lt h]

theorem qput_z {W w : World} {L : List AObj} {F : List (Nat × Obj)} (h : Hp W w L F) (k : Nat) {b : Nat} {B : List Bool} (hk : L[k]? = some (aQwr b B)) (hB : B.length ≤ 2 ^ 40) (n : Nat) (hn : n ≤ 64) :
    Calls Try.prog 29 #[.pointer (some ⟨b, 0, none⟩), .int .i64 n, .int .u64 0] w fun e w' => e = .returned (.int .i64 0) ∧ Hp W w' (L.set k (aQwr b (B ++ bitsN n 0))) F :=
  qput_good h k hk hB n 0 hn (Nat.two_pow_pos n)
theorem qput_s {W w : World} {L : List AObj} {F : List (Nat × Obj)} {k : Nat} {b : Nat} {B : List Bool} {x : AObj} (hk : L[k]? = some x) (h : Hp W w (L.set k (aQwr b B)) F) (hB : B.length ≤ 2 ^ 40) (n v : Nat) (hn : n + 1 ≤ 64) (hv : v + 1 < 2 ^ (n + 1)) :
    Calls Try.prog 29 #[.pointer (some ⟨b, 0, none⟩), .int .i64 ((n : Int) + 1), .int .u64 ((v : Int) + 1)] w fun e w' => e = .returned (.int .i64 0) ∧ Hp W w' (L.set k (aQwr b (B ++ bitsN (n + 1) (v + 1)))) F := by
  have := qput_good h k (set_at hk _) hB (n + 1) (v + 1) hn hv
  rw [set_set] at this
  exact this

theorem qgput_ue {W w : World} {L : List AObj} {F : List (Nat × Obj)} (h : Hp W w L F) (k : Nat) {b : Nat} {B : List Bool} (hk : L[k]? = some (aQwr b B)) (hB : B.length ≤ 2 ^ 39) (v : Nat) (hv : v < 18446744073709551616) :
    Calls Try.prog 28 #[.pointer (some ⟨b, 0, none⟩), .int .u64 v] w fun e w' => e = .returned (.int .i64 (pueE v)) ∧ Hp W w' (L.set k (aQwr b (pueB B v))) F := by
  by_cases c1 : 4294967294 < v
  · have e1 : pueE v = 3 := if_pos c1
    have e2 : pueB B v = B := by unfold pueB; rw [e1]; rfl
    have hd : decide ((4294967294 : Int) < v) = true := by simp; omega
    rw [e1, e2, set_same hk]
    have H := Lib.hid h; clear h hk
    go_enter Try.func28, Try.ntmps28
    go_wp2
    exact bodyPost_ret (results_tmp rfl _ _ _) rfl ⟨rfl, H.out⟩
  · have e1 : pueE v = 0 := if_neg c1
    have e2 : pueB B v = B ++ ueB v := by unfold pueB; rw [if_pos e1]
    have hd : decide ((4294967294 : Int) < v) = false := by simp; omega
    have hv2 : v ≤ 4294967294 := by omega
    rw [e1, e2, ueB_split, ← List.append_assoc]
    have hN := ueN_le hv2
    have hb1 := (ueN_bounds v).1
    have hb2 := (ueN_bounds v).2
    have H := Lib.hid h; clear h e1 e2 c1
    have HK := Lib.hid hk; clear hk
    have HB := Lib.hid (And.intro hb1 hb2); clear hb1 hb2
    obtain ⟨N, hN0⟩ : ∃ N, N = ueN v := ⟨_, rfl⟩
    rw [← hN0] at hN HB ⊢
    clear hN0
    go_enter Try.func28, Try.ntmps28
    go_wp2
    go_loop [5] (fun n' => ∃ c : Nat, n' = .int .i64 c ∧ c ≤ N) (fun n' => N - (intOf n').toNat)
    case atStart => exact ⟨0, rfl, by omega⟩
    case round =>
      obtain ⟨c, rfl, hc⟩ := hrel
      obtain ⟨P, hP, p1, p2, p3⟩ := two_pow_z (z := c) (by omega)
      have p4 : IntKind.u64.wrap ((2 : Int) ^ (c + 1)) = 2 * (P : Int) := by
        rw [show ((2 : Int) ^ (c + 1)) = ((2 ^ (c + 1) : Nat) : Int) by simp, w_u64 (by rw [Nat.pow_succ, ← hP]; omega), Nat.pow_succ, ← hP]; omega
      by_cases hlt : c < N
      · have hd2 : decide (2 * (P : Int) ≤ (v : Int) + 1) = true := by
          have h1 : 2 ^ (c + 1) ≤ 2 ^ N := Nat.pow_le_pow_right (by omega) (by omega)
          rw [Nat.pow_succ, ← hP] at h1
          have := HB.out.1
          simp; omega
        clear hP
        go_wp2
        go_round
        case rel => exact ⟨c + 1, by go_num, by omega⟩
        case measure => simp [intOf]; omega
      · obtain rfl : c = N := by omega
        have hd2 : decide (2 * (P : Int) ≤ (v : Int) + 1) = false := by
          have h1 := HB.out.2
          rw [Nat.pow_succ, ← hP] at h1
          simp; omega
        have hlen : (B ++ bitsN c 0).length ≤ 2 ^ 40 := by rw [List.length_append, bitsN_length]; omega
        have hB40 : B.length ≤ 2 ^ 40 := by omega
        have hc64 : c ≤ 64 := by omega
        have hc64' : c + 1 ≤ 64 := by omega
        clear hP
        go_wp2_with (first | (go_at_call 29; (with_reducible refine (qput_z H.out k HK.out hB40 c hc64).mono ?_); rintro e w1 ⟨rfl, hS⟩) | (go_at_call 29; (with_reducible refine (qput_s HK.out hS hlen c v hc64' HB.out.2).mono ?_); rintro e w2 ⟨rfl, hS2⟩))
        refine bodyPost_ret (results_tmp rfl _ _ _) rfl ⟨?_, ?_⟩
        · rfl
        · exact hS2

end Go.Proofs.Ytkaoeilijdeioaa
