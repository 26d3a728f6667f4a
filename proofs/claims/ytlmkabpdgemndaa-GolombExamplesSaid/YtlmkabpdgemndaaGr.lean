/- The reference's other Exp-Golomb codes: they say what the program's say. -/
import Derived.Test.YtlmkabpdgemndaaGq
namespace Go.Proofs.Ytlmkabpdgemndaa
open Go.RowKit
set_option linter.unusedVariables false
set_option maxRecDepth 100000
set_option linter.unusedSimpArgs false

theorem qgput_se {W w : World} {L : List AObj} {F : List (Nat × Obj)} (h : Hp W w L F) (k : Nat) {b : Nat} {B : List Bool} (hk : L[k]? = some (aQwr b B)) (hB : B.length ≤ 2 ^ 39) (v : Int) (h1 : -9223372036854775808 ≤ v) (h2 : v ≤ 9223372036854775807) :
    Calls Try.prog 25 #[.pointer (some ⟨b, 0, none⟩), .int .i64 v] w fun e w' => e = .returned (.int .i64 (pseE v)) ∧ Hp W w' (L.set k (aQwr b (pseB B v))) F := by
  by_cases c1 : v < -2147483647 ∨ 2147483647 < v
  · have e1 : pseE v = 3 := if_pos c1
    have e2 : pseB B v = B := by unfold pseB; rw [e1]; rfl
    rw [e1, e2, set_same hk]
    have H := Lib.hid h; clear h hk e1 e2
    rcases c1 with c1 | c1
    · have hd : decide (v < -2147483647) = true := by simpa using c1
      go_enter Try.func25, Try.ntmps25
      go_wp2
      exact bodyPost_ret (results_tmp rfl _ _ _) rfl ⟨rfl, H.out⟩
    · have hd : decide (v < -2147483647) = false := by simp; omega
      have hd2 : decide (2147483647 < v) = true := by simpa using c1
      go_enter Try.func25, Try.ntmps25
      go_wp2
      exact bodyPost_ret (results_tmp rfl _ _ _) rfl ⟨rfl, H.out⟩
  · have e1 : pseE v = 0 := if_neg c1
    have e2 : pseB B v = B ++ ueB (seN v) := by unfold pseB; rw [if_pos e1]
    have hd : decide (v < -2147483647) = false := by simp; omega
    have hd2 : decide (2147483647 < v) = false := by simp; omega
    have hb : -2147483647 ≤ v ∧ v ≤ 2147483647 := by omega
    rw [e1, e2]
    have H := Lib.hid h; clear h e1 e2 c1
    have HK := Lib.hid hk; clear hk
    by_cases h0 : 0 < v
    · have hn : seN v = (2 * v - 1).toNat := if_pos h0
      obtain ⟨n, hn'⟩ : ∃ n : Nat, 2 * v - 1 = (n : Int) := ⟨(2 * v - 1).toNat, by omega⟩
      have hn2 : seN v = n := by omega
      have hd3 : decide (0 < v) = true := by simpa using h0
      have hp : pueE n = 0 := if_neg (by omega)
      have hp2 : pueB B n = B ++ ueB n := by unfold pueB; rw [if_pos hp]
      have q1 : IntKind.i64.wrap (2 * v - 1) = (n : Int) := by rw [← hn']; exact IntWalk.i64_in _ (by omega)
      have q2 : IntKind.i64.wrap (2 * v) = 2 * v := IntWalk.i64_in _ (by omega)
      have q3 : IntKind.u64.wrap (n : Int) = n := w_u64 (by omega)
      have hn64 : n < 18446744073709551616 := by omega
      rw [hn2]
      clear hn hn2
      have Hn := Lib.hid hn'; clear hn'
      clear h0
      go_enter Try.func25, Try.ntmps25
      go_wp2_with (first | (go_at_call 23; refine (qgput_ue H.out k HK.out hB n hn64).mono ?_; rintro e w1 ⟨rfl, hS⟩; simp only [hp, hp2] at hS ⊢))
      exact bodyPost_ret (results_tmp rfl _ _ _) rfl ⟨rfl, hS⟩
    · have hn : seN v = (-2 * v).toNat := if_neg h0
      obtain ⟨n, hn'⟩ : ∃ n : Nat, -2 * v = (n : Int) := ⟨(-2 * v).toNat, by omega⟩
      have hn2 : seN v = n := by omega
      have hd3 : decide (0 < v) = false := by simpa using h0
      have hp : pueE n = 0 := if_neg (by omega)
      have hp2 : pueB B n = B ++ ueB n := by unfold pueB; rw [if_pos hp]
      have q1 : IntKind.i64.wrap (-2 * v) = (n : Int) := by rw [← hn']; exact IntWalk.i64_in _ (by omega)
      have q3 : IntKind.u64.wrap (n : Int) = n := w_u64 (by omega)
      have hn64 : n < 18446744073709551616 := by omega
      rw [hn2]
      clear hn hn2
      have Hn := Lib.hid hn'; clear hn'
      clear h0
      go_enter Try.func25, Try.ntmps25
      go_wp2_with (first | (go_at_call 23; refine (qgput_ue H.out k HK.out hB n hn64).mono ?_; rintro e w1 ⟨rfl, hS⟩; simp only [hp, hp2] at hS ⊢))
      exact bodyPost_ret (results_tmp rfl _ _ _) rfl ⟨rfl, hS⟩

theorem qgput_te {W w : World} {L : List AObj} {F : List (Nat × Obj)} (h : Hp W w L F) (k : Nat) {b : Nat} {B : List Bool} (hk : L[k]? = some (aQwr b B)) (hB : B.length ≤ 2 ^ 39) (m v : Nat) (hm : m < 18446744073709551616) (hv : v < 18446744073709551616) :
    Calls Try.prog 27 #[.pointer (some ⟨b, 0, none⟩), .int .u64 m, .int .u64 v] w fun e w' => e = .returned (.int .i64 (pteE m v)) ∧ Hp W w' (L.set k (aQwr b (pteB B m v))) F := by
  by_cases c1 : 4294967294 < m ∨ m < v
  · have e1 : pteE m v = 3 := if_pos c1
    have e2 : pteB B m v = B := by unfold pteB; rw [e1]; rfl
    rw [e1, e2, set_same hk]
    have H := Lib.hid h; clear h hk e1 e2
    by_cases c2 : 4294967294 < m
    · have hd : decide ((4294967294 : Int) < m) = true := by simp; omega
      clear c1 c2
      go_enter Try.func27, Try.ntmps27
      go_wp2
      exact bodyPost_ret (results_tmp rfl _ _ _) rfl ⟨rfl, H.out⟩
    · have hd : decide ((4294967294 : Int) < m) = false := by simp; omega
      have hd2 : decide (m < v) = true := by simp; omega
      clear c1 c2
      go_enter Try.func27, Try.ntmps27
      go_wp2
      exact bodyPost_ret (results_tmp rfl _ _ _) rfl ⟨rfl, H.out⟩
  · have e1 : pteE m v = 0 := if_neg c1
    have e2 : pteB B m v = B ++ teB m v := by unfold pteB; rw [if_pos e1]
    have hd : decide ((4294967294 : Int) < m) = false := by simp; omega
    have hd2 : decide (m < v) = false := by simp; omega
    have hvm : v ≤ m ∧ m ≤ 4294967294 := by omega
    rw [e1, e2]
    have H := Lib.hid h; clear h e1 e2 c1
    have HK := Lib.hid hk; clear hk
    by_cases m0 : m = 0
    · subst m0
      have e3 : teB 0 v = [] := rfl
      rw [e3, List.append_nil, set_same HK.out]
      have hd3 : decide ((0 : Int) < v) = false := by simp; omega
      go_enter Try.func27, Try.ntmps27
      go_wp2
      exact bodyPost_ret (results_tmp rfl _ _ _) rfl ⟨rfl, H.out⟩
    · by_cases m1 : m = 1
      · subst m1
        have e3 : teB 1 v = bitsN 1 (1 - v) := rfl
        have hd3 : decide ((1 : Int) < v) = false := by simp; omega
        obtain ⟨u, hu⟩ : ∃ u, 1 - v = u := ⟨_, rfl⟩
        have q1 : IntKind.u64.wrap (1 - (v : Int)) = (u : Int) := by rw [show 1 - (v : Int) = ((u : Nat) : Int) by omega]; exact w_u64 (by omega)
        have hp : pE 1 u = 0 := pE_bit (by omega)
        have hp2 : pB B 1 u = B ++ bitsN 1 u := by unfold pB; rw [if_pos hp]; rfl
        have hu64 : u < 18446744073709551616 := by omega
        have Hv := Lib.hid hvm; clear hvm
        rw [e3, hu]
        clear hu e3
        go_enter Try.func27, Try.ntmps27
        go_wp2_with (first | (go_at_call 51; refine (qput_any H.out k HK.out (Nat.le_trans hB (by decide)) 1 u hu64).mono ?_; rintro e w1 ⟨rfl, hS⟩; simp only [hp, hp2] at hS ⊢))
        exact bodyPost_ret (results_tmp rfl _ _ _) rfl ⟨rfl, hS⟩
      · have e3 : teB m v = ueB v := by unfold teB; rw [if_neg m0, if_neg m1]
        have hp : pueE v = 0 := if_neg (by omega)
        have hp2 : pueB B v = B ++ ueB v := by unfold pueB; rw [if_pos hp]
        have hd3 : ((m : Int) == 0) = false := by simp; omega
        have hd4 : ((m : Int) == 1) = false := by simp; omega
        rw [e3]
        clear e3 m0 m1
        go_enter Try.func27, Try.ntmps27
        go_wp2_with (first | (go_at_call 23; refine (qgput_ue H.out k HK.out hB v hv).mono ?_; rintro e w1 ⟨rfl, hS⟩; simp only [hp, hp2] at hS ⊢))
        exact bodyPost_ret (results_tmp rfl _ _ _) rfl ⟨rfl, hS⟩

theorem qgput_uk {W w : World} {L : List AObj} {F : List (Nat × Obj)} (h : Hp W w L F) (k : Nat) {b : Nat} {B : List Bool} (hk : L[k]? = some (aQwr b B)) (hB : B.length ≤ 2 ^ 39) (n : Int) (v : Nat) (hv : v < 18446744073709551616) :
    Calls Try.prog 29 #[.pointer (some ⟨b, 0, none⟩), .int .i64 n, .int .u64 v] w fun e w' => e = .returned (.int .i64 (pukE n v)) ∧ Hp W w' (L.set k (aQwr b (pukB B n v))) F := by
  by_cases c1 : n < 0 ∨ 8 < n
  · have e1 : pukE n v = 3 := if_pos (by omega)
    have e2 : pukB B n v = B := by unfold pukB; rw [e1]; rfl
    rw [e1, e2, set_same hk]
    have H := Lib.hid h; clear h hk e1 e2
    by_cases c2 : n < 0
    · have hd : decide (n < 0) = true := by simpa using c2
      clear c1 c2
      go_enter Try.func29, Try.ntmps29
      go_wp2
      exact bodyPost_ret (results_tmp rfl _ _ _) rfl ⟨rfl, H.out⟩
    · have hd : decide (n < 0) = false := by simpa using c2
      have hd2 : decide (8 < n) = true := by simp; omega
      clear c1 c2
      go_enter Try.func29, Try.ntmps29
      go_wp2
      exact bodyPost_ret (results_tmp rfl _ _ _) rfl ⟨rfl, H.out⟩
  · obtain ⟨m, rfl⟩ : ∃ m : Nat, n = (m : Int) := ⟨n.toNat, by omega⟩
    have hm : m ≤ 8 := by omega
    have hd2 : decide ((8 : Int) < (m : Int)) = false := by simp; omega
    obtain ⟨P, hP, p1, p2, p3⟩ := two_pow_z (z := m) (by omega)
    have q2 : (v : Int) % (P : Int) = ((v % 2 ^ m : Nat) : Int) := by rw [hP]; push_cast; rfl
    have q4 : ((P : Int) == 0) = false := by simp; omega
    have hr : v % 2 ^ m < 2 ^ m := Nat.mod_lt _ (Nat.two_pow_pos _)
    have hr2 : v % 2 ^ m < 18446744073709551616 := Nat.lt_of_le_of_lt (Nat.mod_le _ _) hv
    have q1 : (v : Int) / 2 ^ m = ((v / 2 ^ m : Nat) : Int) := by push_cast; rfl
    have u1 : pukE m v = if (m : Int) < 0 ∨ 8 < (m : Int) ∨ 4294967294 < v / 2 ^ m then 3 else 0 := rfl
    have u2 : pukB B m v = if pukE m v = 0 then B ++ (ueB (v / 2 ^ m) ++ bitsN m (v % 2 ^ m)) else B := rfl
    have HP := Lib.hid hP; clear hP
    generalize hD : v / 2 ^ m = D at *
    generalize hR : v % 2 ^ m = R at *
    by_cases c2 : 4294967294 < D
    · have e1 : pukE m v = 3 := by rw [u1, if_pos (by omega)]
      have e2 : pukB B m v = B := by rw [u2, e1]; rfl
      rw [e1, e2, set_same hk]
      have H := Lib.hid h; clear h hk e1 e2 u1 u2
      have hd3 : decide ((4294967294 : Int) < (D : Int)) = true := by simp; omega
      clear c1 c2 hr hr2 hD hR q2
      go_enter Try.func29, Try.ntmps29
      go_wp2
      exact bodyPost_ret (results_tmp rfl _ _ _) rfl ⟨rfl, H.out⟩
    · have e1 : pukE m v = 0 := by rw [u1, if_neg (by omega)]
      have e2 : pukB B m v = B ++ ueB D ++ bitsN m R := by rw [u2, if_pos e1, List.append_assoc]
      rw [e1, e2]
      have hd3 : decide ((4294967294 : Int) < (D : Int)) = false := by simp; omega
      have H := Lib.hid h; clear h e1 e2 u1 u2
      have HK := Lib.hid hk; clear hk
      have hp : pueE D = 0 := if_neg c2
      have hp2 : pueB B D = B ++ ueB D := by unfold pueB; rw [if_pos hp]
      have hl : (B ++ ueB D).length ≤ 2 ^ 40 := by
        have := ueN_le (v := D) (by omega)
        rw [List.length_append, ueB_length]; omega
      have hq : pE m R = 0 := pE_ok (by omega) hr
      have hq2 : pB (B ++ ueB D) m R = B ++ ueB D ++ bitsN m R := by unfold pB; rw [if_pos hq]; rfl
      have hd' : D < 18446744073709551616 := by omega
      have hB2 : B.length ≤ 2 ^ 39 := hB
      clear c1 c2 hD hR hr
      go_enter Try.func29, Try.ntmps29
      go_wp2_with (first | (go_at_call 23; refine (qgput_ue H.out k HK.out hB2 _ hd').mono ?_; rintro e w1 ⟨rfl, hS⟩; simp only [hp, hp2] at hS ⊢) | (go_at_call 51; refine (qput_any hS k (set_at HK.out _) hl m _ hr2).mono ?_; rintro e w1 ⟨rfl, hS2⟩; simp only [hq, hq2, set_set] at hS2 ⊢))
      exact bodyPost_ret (results_tmp rfl _ _ _) rfl ⟨rfl, hS2⟩

theorem qgse_any {W w : World} {L : List AObj} {F : List (Nat × Obj)} (h : Hp W w L F) (k : Nat) {b : Nat} {s : ByteArray} {i : Nat} (hk : L[k]? = some (aQrd b s i)) :
    Calls Try.prog 39 #[.pointer (some ⟨b, 0, none⟩)] w fun e w' => e = .returned (.tuple #[.int .i64 (seV s i), .int .i64 (ueE s i)]) ∧ Hp W w' (L.set k (aQrd b s (ueI s i))) F := by
  have HK := Lib.hid hk; clear hk
  have H := Lib.hid h; clear h
  have hv := ueV_lt s i
  by_cases h0 : ueE s i = 0
  · unfold seV
    obtain ⟨V, hV⟩ : ∃ V, V = ueV s i := ⟨_, rfl⟩
    rw [← hV] at hv ⊢
    have HV := Lib.hid (And.intro hV.symm h0); clear hV h0
    have q2 : IntKind.i64.wrap ((V : Int) / 2) = (V : Int) / 2 := IntWalk.i64_in _ (by omega)
    by_cases h2 : V % 2 = 1
    · have q1 : (V : Int) % 2 = 1 := by omega
      rw [if_pos h2]
      clear h2
      go_enter Try.func39, Try.ntmps39
      go_wp2_with (first | (go_at_call 37; refine (qgue_any H.out k HK.out).mono ?_; rintro e w1 ⟨rfl, hS⟩; simp only [HV.out.1, HV.out.2] at hS ⊢))
      refine bodyPost_ret (results_tmp2 rfl _ _ _) rfl ⟨?_, hS⟩
      rw [HV.out.2, show ((V / 2 + 1 : Nat) : Int) = (V : Int) / 2 + 1 by omega]; rfl
    · have q1 : (V : Int) % 2 = 0 := by omega
      rw [if_neg h2]
      clear h2
      go_enter Try.func39, Try.ntmps39
      go_wp2_with (first | (go_at_call 37; refine (qgue_any H.out k HK.out).mono ?_; rintro e w1 ⟨rfl, hS⟩; simp only [HV.out.1, HV.out.2] at hS ⊢))
      refine bodyPost_ret (results_tmp2 rfl _ _ _) rfl ⟨?_, hS⟩
      rw [HV.out.2, show ((V / 2 : Nat) : Int) = (V : Int) / 2 by omega]; rfl
  · have h0' : (ueE s i == 0) = false := by simp [h0]
    have e1 : seV s i = 0 := by unfold seV; rw [ueV_not h0]; rfl
    rw [e1]
    clear hv h0 e1
    go_enter Try.func39, Try.ntmps39
    go_wp2_with (first | (go_at_call 37; refine (qgue_any H.out k HK.out).mono ?_; rintro e w1 ⟨rfl, hS⟩))
    exact bodyPost_ret (results_tmp2 rfl _ _ _) rfl ⟨rfl, hS⟩

theorem qgte_any {W w : World} {L : List AObj} {F : List (Nat × Obj)} (h : Hp W w L F) (k : Nat) {b : Nat} {s : ByteArray} {i : Nat} (hk : L[k]? = some (aQrd b s i)) (m : Nat) (hm : m < 18446744073709551616) :
    Calls Try.prog 41 #[.pointer (some ⟨b, 0, none⟩), .int .u64 m] w fun e w' => e = .returned (.tuple #[.int .u64 (teV s i m), .int .i64 (teE s i m)]) ∧ Hp W w' (L.set k (aQrd b s (teI s i m))) F := by
  obtain ⟨h1, h2, h3⟩ := h.qrd k hk
  obtain ⟨c0, c1', f0, f1⟩ := cells_two h1
  clear h1
  by_cases c1 : 4294967294 < m
  · have e1 : teE s i m = 3 := if_pos c1
    have e2 : teV s i m = 0 := by unfold teV; rw [e1]; rfl
    have e3 : teI s i m = i := by unfold teI; rw [e1]; rfl
    have hd : decide ((4294967294 : Int) < m) = true := by simp; omega
    rw [e1, e2, e3, set_same hk]
    have H := Lib.hid h; clear h hk e1 e2 e3 c1
    go_enter Try.func41, Try.ntmps41
    go_wp2
    exact bodyPost_ret (results_tmp2 rfl _ _ _) rfl ⟨rfl, H.out⟩
  · have hd : decide ((4294967294 : Int) < m) = false := by simp; omega
    have H := Lib.hid h; clear h
    have HK := Lib.hid hk; clear hk
    by_cases m0 : m = 0
    · subst m0
      have e1 : teE s i 0 = 0 := rfl
      have e2 : teV s i 0 = 0 := rfl
      have e3 : teI s i 0 = i := rfl
      rw [e1, e2, e3, set_same HK.out]
      clear e1 e2 e3
      go_enter Try.func41, Try.ntmps41
      go_wp2
      exact bodyPost_ret (results_tmp2 rfl _ _ _) rfl ⟨rfl, H.out⟩
    · by_cases m1 : m = 1
      · subst m1
        have e1 : teE s i 1 = uE s i 1 := rfl
        by_cases h0 : uE s i 1 = 0
        · have e2 : teV s i 1 = 1 - uV s i 1 := by unfold teV; rw [e1, if_pos h0]; rfl
          have e3 : teI s i 1 = uI s i 1 := by unfold teI; rw [e1, if_pos h0]; rfl
          have hv := uV_one_le s i
          obtain ⟨V, hV⟩ : ∃ V, V = uV s i 1 := ⟨_, rfl⟩
          rw [← hV] at hv e2
          obtain ⟨u, hu⟩ : ∃ u, u = 1 - V := ⟨_, rfl⟩
          have q1 : 1 - (V : Int) = (u : Int) := by omega
          have q2 : IntKind.u8.wrap (u : Int) = u := by rw [IntKind.wrap_u8]; omega
          rw [e1, e2, e3, ← hu]
          have HV := Lib.hid (And.intro hV.symm h0); clear hV h0 hu e1 e2 e3
          go_enter Try.func41, Try.ntmps41
          go_wp2_with (first | (go_at_call 52; refine (qbit_any H.out k HK.out).mono ?_; rintro e w1 ⟨rfl, hS⟩; simp only [HV.out.1, HV.out.2] at hS ⊢))
          exact bodyPost_ret (results_tmp2 rfl _ _ _) rfl ⟨by rw [HV.out.2]; rfl, hS⟩
        · have e2 : teV s i 1 = 0 := by unfold teV; rw [e1, if_neg h0]
          have e3 : teI s i 1 = i := by unfold teI; rw [e1, if_neg h0]
          have e4 : uI s i 1 = i := by unfold uI; rw [if_neg h0]
          have h0' : (uE s i 1 == 0) = false := by simp [h0]
          rw [e1, e2, e3]
          have R := Lib.hid e4; clear e4 h0 e1 e2 e3
          go_enter Try.func41, Try.ntmps41
          go_wp2_with (first | (go_at_call 52; refine (qbit_any H.out k HK.out).mono ?_; rintro e w1 ⟨rfl, hS⟩; simp only [R.out] at hS))
          exact bodyPost_ret (results_tmp2 rfl _ _ _) rfl ⟨rfl, hS⟩
      · have hd3 : ((m : Int) == 0) = false := by simp; omega
        have hd4 : ((m : Int) == 1) = false := by simp; omega
        have e1 : teE s i m = if ueE s i = 0 then (if m < ueV s i then 3 else 0) else ueE s i := by unfold teE; rw [if_neg c1, if_neg m0, if_neg m1]
        by_cases h0 : ueE s i = 0
        · rw [if_pos h0] at e1
          by_cases h5 : m < ueV s i
          · rw [if_pos h5] at e1
            have e2 : teV s i m = 0 := by unfold teV; rw [e1]; rfl
            have e3 : teI s i m = i := by unfold teI; rw [e1]; rfl
            rw [e1, e2, e3]
            obtain ⟨V, hV⟩ : ∃ V, V = ueV s i := ⟨_, rfl⟩
            rw [← hV] at h5
            have hd5 : decide (m < V) = true := by simpa using h5
            have HV := Lib.hid (And.intro hV.symm h0); clear hV h0 h5 e1 e2 e3 m0 m1 c1
            go_enter Try.func41, Try.ntmps41
            go_wp2_with (first | (go_at_call 37; refine (qgue_any H.out k HK.out).mono ?_; rintro e w1 ⟨rfl, hS⟩; simp only [HV.out.1, HV.out.2] at hS ⊢) | (go_at_call 53; refine (qback_at HK.out hS i h3 3).mono ?_; rintro e w2 ⟨rfl, hS3⟩))
            exact bodyPost_ret (results_tmp2 rfl _ _ _) rfl ⟨rfl, hS3⟩
          · rw [if_neg h5] at e1
            have e2 : teV s i m = ueV s i := by unfold teV; rw [e1, if_pos rfl, if_neg m0, if_neg m1]
            have e3 : teI s i m = ueI s i := by unfold teI; rw [e1, if_pos rfl, if_neg m0, if_neg m1]
            rw [e1, e2, e3]
            obtain ⟨V, hV⟩ : ∃ V, V = ueV s i := ⟨_, rfl⟩
            rw [← hV] at h5 ⊢
            have hd5 : decide (m < V) = false := by simpa using h5
            have HV := Lib.hid (And.intro hV.symm h0); clear hV h0 h5 e1 e2 e3 m0 m1 c1
            go_enter Try.func41, Try.ntmps41
            go_wp2_with (first | (go_at_call 37; refine (qgue_any H.out k HK.out).mono ?_; rintro e w1 ⟨rfl, hS⟩; simp only [HV.out.1, HV.out.2] at hS ⊢))
            exact bodyPost_ret (results_tmp2 rfl _ _ _) rfl ⟨rfl, hS⟩
        · rw [if_neg h0] at e1
          have e2 : teV s i m = 0 := by unfold teV; rw [e1, if_neg h0]
          have e3 : teI s i m = i := by unfold teI; rw [e1, if_neg h0]
          have e4 : ueI s i = i := by unfold ueI; rw [if_neg h0]
          have e5 : ueV s i = 0 := ueV_not h0
          have h0' : (ueE s i == 0) = false := by simp [h0]
          rw [e1, e2, e3]
          have R := Lib.hid (And.intro e4 e5); clear e4 e5 h0 e1 e2 e3 m0 m1 c1
          go_enter Try.func41, Try.ntmps41
          go_wp2_with (first | (go_at_call 37; refine (qgue_any H.out k HK.out).mono ?_; rintro e w1 ⟨rfl, hS⟩; simp only [R.out.1, R.out.2] at hS ⊢))
          exact bodyPost_ret (results_tmp2 rfl _ _ _) rfl ⟨rfl, hS⟩

theorem qguk_any {W w : World} {L : List AObj} {F : List (Nat × Obj)} (h : Hp W w L F) (k : Nat) {b : Nat} {s : ByteArray} {i : Nat} (hk : L[k]? = some (aQrd b s i)) (n : Int) :
    Calls Try.prog 43 #[.pointer (some ⟨b, 0, none⟩), .int .i64 n] w fun e w' => e = .returned (.tuple #[.int .u64 (ukV s i n), .int .i64 (ukE s i n)]) ∧ Hp W w' (L.set k (aQrd b s (ukI s i n))) F := by
  obtain ⟨h1, h2, h3⟩ := h.qrd k hk
  obtain ⟨c0, c1', f0, f1⟩ := cells_two h1
  clear h1
  by_cases c1 : n < 0 ∨ 8 < n
  · have e1 : ukE s i n = 3 := if_pos c1
    have e2 : ukV s i n = 0 := by unfold ukV; rw [e1]; rfl
    have e3 : ukI s i n = i := by unfold ukI; rw [e1]; rfl
    rw [e1, e2, e3, set_same hk]
    have H := Lib.hid h; clear h hk e1 e2 e3
    by_cases c2 : n < 0
    · have hd : decide (n < 0) = true := by simpa using c2
      clear c1 c2
      go_enter Try.func43, Try.ntmps43
      go_wp2
      exact bodyPost_ret (results_tmp2 rfl _ _ _) rfl ⟨rfl, H.out⟩
    · have hd : decide (n < 0) = false := by simpa using c2
      have hd2 : decide (8 < n) = true := by simp; omega
      clear c1 c2
      go_enter Try.func43, Try.ntmps43
      go_wp2
      exact bodyPost_ret (results_tmp2 rfl _ _ _) rfl ⟨rfl, H.out⟩
  · obtain ⟨m, rfl⟩ : ∃ m : Nat, n = (m : Int) := ⟨n.toNat, by omega⟩
    have hm : m ≤ 8 := by omega
    have hd2 : decide ((8 : Int) < (m : Int)) = false := by simp; omega
    have H := Lib.hid h; clear h
    have HK := Lib.hid hk; clear hk
    by_cases h0 : ueE s i = 0
    · have e1 : ukE s i m = uE s (ueI s i) m := by unfold ukE; rw [if_neg c1, if_pos h0]
      have hV := ueV_lt s i
      obtain ⟨V, hV2⟩ : ∃ V, V = ueV s i := ⟨_, rfl⟩
      obtain ⟨J, hJ⟩ : ∃ J, J = ueI s i := ⟨_, rfl⟩
      rw [← hV2] at hV
      rw [← hJ] at e1
      by_cases h5 : uE s J (m : Int) = 0
      · have e2 : ukV s i m = V * 2 ^ m + uV s J m := by unfold ukV; rw [e1, if_pos h5, ← hV2, ← hJ]; rfl
        have e3 : ukI s i m = uI s J m := by unfold ukI; rw [e1, if_pos h5, ← hJ]
        obtain ⟨P, hP, p1, p2, p3⟩ := two_pow_z (z := m) (by omega)
        have hP8 : P ≤ 256 := by rw [hP]; exact Nat.le_trans (Nat.pow_le_pow_right (by omega) hm) (by decide)
        obtain ⟨R, hR⟩ : ∃ R, R = uV s J (m : Int) := ⟨_, rfl⟩
        have hR2 : R < P := by rw [hR, hP]; exact uV_lt
        have hVP : V * P < 4294967295 * 256 := Nat.lt_of_lt_of_le (Nat.mul_lt_mul_of_pos_right hV (by omega)) (Nat.mul_le_mul_left _ hP8)
        obtain ⟨Z, hZ⟩ : ∃ Z, Z = V * P := ⟨_, rfl⟩
        have q1 : IntKind.u64.wrap ((V : Int) * 2 ^ m) = (Z : Int) := by
          rw [show ((V : Int) * 2 ^ m) = ((Z : Nat) : Int) by rw [hZ, hP]; push_cast; rfl]; exact w_u64 (by omega)
        rw [← hP, ← hR, ← hZ] at e2
        have hZR : Z < 1099511627520 := by omega
        have Q := Lib.hid (And.intro (And.intro hV2.symm hJ.symm) (And.intro hR.symm (And.intro h0 h5)))
        have E := Lib.hid (And.intro e1 (And.intro e2 e3))
        clear hV2 hJ hR h0 e1 e2 e3 hZ hP hVP p3 c1
        go_enter Try.func43, Try.ntmps43
        go_wp2_with (first | (go_at_call 37; refine (qgue_any H.out k HK.out).mono ?_; rintro e w1 ⟨rfl, hS⟩; simp only [Q.out.1.1, Q.out.1.2, Q.out.2.2.1] at hS ⊢) | (go_at_call 54; refine (qu_at HK.out hS m).mono ?_; rintro e w2 ⟨rfl, hS2⟩; simp only [Q.out.2.1, Q.out.2.2.2] at hS2 ⊢))
        refine bodyPost_ret (results_tmp2 rfl _ _ _) rfl ⟨?_, by rw [E.out.2.2]; exact hS2⟩
        rw [E.out.1, E.out.2.1, Q.out.2.2.2, show ((Z + R : Nat) : Int) = (Z : Int) + (R : Int) by omega]; rfl
      · have e2 : ukV s i m = 0 := by unfold ukV; rw [e1, if_neg h5]
        have e3 : ukI s i m = i := by unfold ukI; rw [e1, if_neg h5]
        have h5' : (uE s J (m : Int) == 0) = false := by simp [h5]
        have Q := Lib.hid (And.intro (And.intro hV2.symm hJ.symm) h0)
        have E := Lib.hid (And.intro e1 (And.intro e2 e3))
        clear hV2 hJ h0 e1 e2 e3 h5 c1
        go_enter Try.func43, Try.ntmps43
        go_wp2_with (first | (go_at_call 37; refine (qgue_any H.out k HK.out).mono ?_; rintro e w1 ⟨rfl, hS⟩; simp only [Q.out.1.1, Q.out.1.2, Q.out.2] at hS ⊢) | (go_at_call 54; refine (qu_at HK.out hS m).mono ?_; rintro e w2 ⟨rfl, hS2⟩) | (go_at_call 53; refine (qback_at HK.out hS2 i h3 _).mono ?_; rintro e w2 ⟨rfl, hS3⟩))
        exact bodyPost_ret (results_tmp2 rfl _ _ _) rfl ⟨by rw [E.out.1, E.out.2.1]; rfl, by rw [E.out.2.2]; exact hS3⟩
    · have e1 : ukE s i m = ueE s i := by unfold ukE; rw [if_neg c1, if_neg h0]
      have e2 : ukV s i m = 0 := by unfold ukV; rw [e1, if_neg h0]
      have e3 : ukI s i m = i := by unfold ukI; rw [e1, if_neg h0]
      have e4 : ueI s i = i := by unfold ueI; rw [if_neg h0]
      have e5 : ueV s i = 0 := ueV_not h0
      have h0' : (ueE s i == 0) = false := by simp [h0]
      rw [e1, e2, e3]
      have R := Lib.hid (And.intro e4 e5); clear e4 e5 h0 e1 e2 e3 c1
      go_enter Try.func43, Try.ntmps43
      go_wp2_with (first | (go_at_call 37; refine (qgue_any H.out k HK.out).mono ?_; rintro e w1 ⟨rfl, hS⟩; simp only [R.out.1, R.out.2] at hS ⊢))
      exact bodyPost_ret (results_tmp2 rfl _ _ _) rfl ⟨rfl, hS⟩

end Go.Proofs.Ytlmkabpdgemndaa
