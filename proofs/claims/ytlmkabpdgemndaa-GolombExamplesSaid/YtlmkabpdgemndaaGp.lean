/- The program's Exp-Golomb codes, the other kinds: what each function does, at every state. -/
import Derived.Test.YtlmkabpdgemndaaGo
namespace Go.Proofs.Ytlmkabpdgemndaa
open Go.RowKit
set_option linter.unusedVariables false
set_option maxRecDepth 100000
set_option linter.unusedSimpArgs false

theorem ueV_not {s : ByteArray} {i : Nat} (h : ueE s i ≠ 0) : ueV s i = 0 := by unfold ueV; rw [if_neg h]
theorem at_succ {L : List AObj} {k : Nat} {x y : AObj} (h : L[k]? = some y) : (x :: L)[k + 1]? = some y := by simpa using h
theorem set_succ {L : List AObj} {k : Nat} {x y : AObj} : (x :: L).set (k + 1) y = x :: L.set k y := rfl

theorem gse_any {W w : World} {L : List AObj} {F : List (Nat × Obj)} (h : Hp W w L F) (k : Nat) {b : Nat} {s : ByteArray} {i : Nat} (hk : L[k]? = some (aRd b s i)) :
    Calls Try.prog 38 #[.pointer (some ⟨b, 0, none⟩)] w fun e w' => e = .returned (.tuple #[.int .i64 (seV s i), .int .i64 (ueE s i)]) ∧ Hp W w' (L.set k (aRd b s (ueI s i))) F := by
  have HK := Lib.hid hk; clear hk
  have H := Lib.hid h; clear h
  have hv := ueV_lt s i
  by_cases h0 : ueE s i = 0
  · unfold seV
    generalize hV : ueV s i = V at *
    by_cases h2 : V % 2 = 1
    · have q1 : (V : Int) % 2 = 1 := by omega
      have q2 : IntKind.i64.wrap ((V : Int) + 1) = (V : Int) + 1 := IntWalk.i64_in _ (by omega)
      rw [if_pos h2]
      go_enter Try.func38, Try.ntmps38
      go_wp2_with (first | (go_at_call 17; refine (gue_any H.out k HK.out).mono ?_; rintro e w1 ⟨rfl, hS⟩; simp only [hV, h0] at hS ⊢))
      refine bodyPost_ret (results_tmp2 rfl _ _ _) rfl ⟨?_, hS⟩
      show Ending.returned (.tuple #[.int .i64 (((V : Int) + 1) / 2), .int .i64 0]) = _
      rw [h0, show ((V : Int) + 1) / 2 = ((V / 2 + 1 : Nat) : Int) by omega]
    · have q1 : (V : Int) % 2 = 0 := by omega
      have q2 : IntKind.i64.wrap ((V : Int) + 1) = (V : Int) + 1 := IntWalk.i64_in _ (by omega)
      rw [if_neg h2]
      go_enter Try.func38, Try.ntmps38
      go_wp2_with (first | (go_at_call 17; refine (gue_any H.out k HK.out).mono ?_; rintro e w1 ⟨rfl, hS⟩; simp only [hV, h0] at hS ⊢))
      refine bodyPost_ret (results_tmp2 rfl _ _ _) rfl ⟨?_, hS⟩
      show Ending.returned (.tuple #[.int .i64 (-(((V : Int) + 1) / 2)), .int .i64 0]) = _
      rw [h0, show ((V : Int) + 1) / 2 = ((V / 2 : Nat) : Int) by omega]
  · have h0' : (ueE s i == 0) = false := by simp [h0]
    have e1 : seV s i = 0 := by unfold seV; rw [ueV_not h0]; rfl
    rw [e1]
    clear hv h0 e1
    go_enter Try.func38, Try.ntmps38
    go_wp2_with (first | (go_at_call 17; refine (gue_any H.out k HK.out).mono ?_; rintro e w1 ⟨rfl, hS⟩))
    exact bodyPost_ret (results_tmp2 rfl _ _ _) rfl ⟨rfl, hS⟩

theorem gse_nil (w : World) : Calls Try.prog 38 #[.pointer none] w fun e w' => e = .returned (.tuple #[.int .i64 0, .int .i64 1]) ∧ w = w' := by
  go_enter Try.func38, Try.ntmps38
  go_wp2_with (go_at_call 17; refine (gue_nil _).mono ?_; rintro e w1 ⟨rfl, rfl⟩)
  exact bodyPost_ret (results_tmp2 rfl _ _ _) rfl ⟨rfl, rfl⟩

theorem gput_se {W w : World} {L : List AObj} {F : List (Nat × Obj)} (h : Hp W w L F) (k : Nat) {b : Nat} {B : List Bool} (hk : L[k]? = some (aWr b B)) (hB : B.length ≤ 2 ^ 40) (v : Int) (h1 : -9223372036854775808 ≤ v) (h2 : v ≤ 9223372036854775807) :
    Calls Try.prog 24 #[.pointer (some ⟨b, 0, none⟩), .int .i64 v] w fun e w' => e = .returned (.int .i64 (pseE v)) ∧ Hp W w' (L.set k (aWr b (pseB B v))) F := by
  by_cases c1 : v < -2147483647 ∨ 2147483647 < v
  · have e1 : pseE v = 3 := if_pos c1
    have e2 : pseB B v = B := by unfold pseB; rw [e1]; rfl
    rw [e1, e2, set_same hk]
    have H := Lib.hid h; clear h hk e1 e2
    rcases c1 with c1 | c1
    · have hd : decide (v < -2147483647) = true := by simpa using c1
      go_enter Try.func24, Try.ntmps24
      go_wp2
      exact bodyPost_ret (results_tmp rfl _ _ _) rfl ⟨rfl, H.out⟩
    · have hd : decide (v < -2147483647) = false := by simp; omega
      have hd2 : decide (2147483647 < v) = true := by simpa using c1
      go_enter Try.func24, Try.ntmps24
      go_wp2
      exact bodyPost_ret (results_tmp rfl _ _ _) rfl ⟨rfl, H.out⟩
  · have e1 : pseE v = 0 := if_neg c1
    have e2 : pseB B v = B ++ ueB (seN v) := by unfold pseB; rw [if_pos e1]
    have hd : decide (v < -2147483647) = false := by simp; omega
    have hd2 : decide (2147483647 < v) = false := by simp; omega
    have hb : -2147483647 ≤ v ∧ v ≤ 2147483647 := by omega
    rw [e1, e2]
    have H := Lib.hid h; clear h e1 e2 c1
    have HK := Lib.hid hk; clear hk
    by_cases h0 : 0 < v
    · have hn : seN v = (2 * v - 1).toNat := if_pos h0
      obtain ⟨n, hn'⟩ : ∃ n : Nat, 2 * v - 1 = (n : Int) := ⟨(2 * v - 1).toNat, by omega⟩
      have hn2 : seN v = n := by omega
      have hd3 : decide (0 < v) = true := by simpa using h0
      have hp : pueE n = 0 := if_neg (by omega)
      have hp2 : pueB B n = B ++ ueB n := by unfold pueB; rw [if_pos hp]
      have q1 : IntKind.i64.wrap (2 * v - 1) = (n : Int) := by rw [← hn']; exact IntWalk.i64_in _ (by omega)
      have q2 : IntKind.i64.wrap (2 * v) = 2 * v := IntWalk.i64_in _ (by omega)
      have q3 : IntKind.u64.wrap (n : Int) = n := w_u64 (by omega)
      have hn64 : n < 18446744073709551616 := by omega
      rw [hn2]
      clear hn hn2
      have Hn := Lib.hid hn'; clear hn'
      clear h0
      go_enter Try.func24, Try.ntmps24
      go_wp2_with (first | (go_at_call 18; refine (gput_ue H.out k HK.out hB n hn64).mono ?_; rintro e w1 ⟨rfl, hS⟩; simp only [hp, hp2] at hS ⊢))
      exact bodyPost_ret (results_tmp rfl _ _ _) rfl ⟨rfl, hS⟩
    · have hn : seN v = (-2 * v).toNat := if_neg h0
      obtain ⟨n, hn'⟩ : ∃ n : Nat, -2 * v = (n : Int) := ⟨(-2 * v).toNat, by omega⟩
      have hn2 : seN v = n := by omega
      have hd3 : decide (0 < v) = false := by simpa using h0
      have hp : pueE n = 0 := if_neg (by omega)
      have hp2 : pueB B n = B ++ ueB n := by unfold pueB; rw [if_pos hp]
      have q1 : IntKind.i64.wrap (-2 * v) = (n : Int) := by rw [← hn']; exact IntWalk.i64_in _ (by omega)
      have q3 : IntKind.u64.wrap (n : Int) = n := w_u64 (by omega)
      have hn64 : n < 18446744073709551616 := by omega
      rw [hn2]
      clear hn hn2
      have Hn := Lib.hid hn'; clear hn'
      clear h0
      go_enter Try.func24, Try.ntmps24
      go_wp2_with (first | (go_at_call 18; refine (gput_ue H.out k HK.out hB n hn64).mono ?_; rintro e w1 ⟨rfl, hS⟩; simp only [hp, hp2] at hS ⊢))
      exact bodyPost_ret (results_tmp rfl _ _ _) rfl ⟨rfl, hS⟩

theorem gput_se_nil (v : Int) (w : World) : Calls Try.prog 24 #[.pointer none, .int .i64 v] w fun e w' => e = .returned (.int .i64 1) ∧ w = w' := by
  go_enter Try.func24, Try.ntmps24
  go_wp2
  exact bodyPost_ret (results_tmp rfl _ _ _) rfl ⟨rfl, rfl⟩

theorem pE_bit {v : Nat} (h : v ≤ 1) : pE 1 v = 0 := pE_ok (n := 1) (by omega) (by omega)

theorem gput_te {W w : World} {L : List AObj} {F : List (Nat × Obj)} (h : Hp W w L F) (k : Nat) {b : Nat} {B : List Bool} (hk : L[k]? = some (aWr b B)) (hB : B.length ≤ 2 ^ 40) (m v : Nat) (hm : m < 18446744073709551616) (hv : v < 18446744073709551616) :
    Calls Try.prog 26 #[.pointer (some ⟨b, 0, none⟩), .int .u64 m, .int .u64 v] w fun e w' => e = .returned (.int .i64 (pteE m v)) ∧ Hp W w' (L.set k (aWr b (pteB B m v))) F := by
  by_cases c1 : 4294967294 < m ∨ m < v
  · have e1 : pteE m v = 3 := if_pos c1
    have e2 : pteB B m v = B := by unfold pteB; rw [e1]; rfl
    rw [e1, e2, set_same hk]
    have H := Lib.hid h; clear h hk e1 e2
    by_cases c2 : 4294967294 < m
    · have hd : decide ((4294967294 : Int) < m) = true := by simp; omega
      clear c1 c2
      go_enter Try.func26, Try.ntmps26
      go_wp2
      exact bodyPost_ret (results_tmp rfl _ _ _) rfl ⟨rfl, H.out⟩
    · have hd : decide ((4294967294 : Int) < m) = false := by simp; omega
      have hd2 : decide (m < v) = true := by simp; omega
      clear c1 c2
      go_enter Try.func26, Try.ntmps26
      go_wp2
      exact bodyPost_ret (results_tmp rfl _ _ _) rfl ⟨rfl, H.out⟩
  · have e1 : pteE m v = 0 := if_neg c1
    have e2 : pteB B m v = B ++ teB m v := by unfold pteB; rw [if_pos e1]
    have hd : decide ((4294967294 : Int) < m) = false := by simp; omega
    have hd2 : decide (m < v) = false := by simp; omega
    have hvm : v ≤ m ∧ m ≤ 4294967294 := by omega
    rw [e1, e2]
    have H := Lib.hid h; clear h e1 e2 c1
    have HK := Lib.hid hk; clear hk
    by_cases m0 : m = 0
    · subst m0
      have e3 : teB 0 v = [] := rfl
      rw [e3, List.append_nil, set_same HK.out]
      have hd3 : decide ((0 : Int) < v) = false := by simp; omega
      go_enter Try.func26, Try.ntmps26
      go_wp2
      exact bodyPost_ret (results_tmp rfl _ _ _) rfl ⟨rfl, H.out⟩
    · by_cases m1 : m = 1
      · subst m1
        have e3 : teB 1 v = bitsN 1 (1 - v) := rfl
        have hd3 : decide ((1 : Int) < v) = false := by simp; omega
        obtain ⟨u, hu⟩ : ∃ u, 1 - v = u := ⟨_, rfl⟩
        have q1 : IntKind.u64.wrap (1 - (v : Int)) = (u : Int) := by rw [show 1 - (v : Int) = ((u : Nat) : Int) by omega]; exact w_u64 (by omega)
        have hp : pE 1 u = 0 := pE_bit (by omega)
        have hp2 : pB B 1 u = B ++ bitsN 1 u := by unfold pB; rw [if_pos hp]; rfl
        have hu64 : u < 18446744073709551616 := by omega
        have Hv := Lib.hid hvm; clear hvm
        rw [e3, hu]
        clear hu e3
        go_enter Try.func26, Try.ntmps26
        go_wp2_with (first | (go_at_call 49; refine (put_any H.out k HK.out hB 1 u hu64).mono ?_; rintro e w1 ⟨rfl, hS⟩; simp only [hp, hp2] at hS ⊢))
        exact bodyPost_ret (results_tmp rfl _ _ _) rfl ⟨rfl, hS⟩
      · have e3 : teB m v = ueB v := by unfold teB; rw [if_neg m0, if_neg m1]
        have hp : pueE v = 0 := if_neg (by omega)
        have hp2 : pueB B v = B ++ ueB v := by unfold pueB; rw [if_pos hp]
        have hd3 : ((m : Int) == 0) = false := by simp; omega
        have hd4 : ((m : Int) == 1) = false := by simp; omega
        rw [e3]
        clear e3 m0 m1
        go_enter Try.func26, Try.ntmps26
        go_wp2_with (first | (go_at_call 18; refine (gput_ue H.out k HK.out hB v hv).mono ?_; rintro e w1 ⟨rfl, hS⟩; simp only [hp, hp2] at hS ⊢))
        exact bodyPost_ret (results_tmp rfl _ _ _) rfl ⟨rfl, hS⟩

theorem gput_te_nil (m v : Int) (w : World) : Calls Try.prog 26 #[.pointer none, .int .u64 m, .int .u64 v] w fun e w' => e = .returned (.int .i64 1) ∧ w = w' := by
  go_enter Try.func26, Try.ntmps26
  go_wp2
  exact bodyPost_ret (results_tmp rfl _ _ _) rfl ⟨rfl, rfl⟩

theorem gte_any {W w : World} {L : List AObj} {F : List (Nat × Obj)} (h : Hp W w L F) (k : Nat) {b : Nat} {s : ByteArray} {i : Nat} (hk : L[k]? = some (aRd b s i)) (m : Nat) (hm : m < 18446744073709551616) :
    Calls Try.prog 40 #[.pointer (some ⟨b, 0, none⟩), .int .u64 m] w fun e w' => e = .returned (.tuple #[.int .u64 (teV s i m), .int .i64 (teE s i m)]) ∧ Hp W w' (L.set k (aRd b s (teI s i m))) F := by
  by_cases c1 : 4294967294 < m
  · have e1 : teE s i m = 3 := if_pos c1
    have e2 : teV s i m = 0 := by unfold teV; rw [e1]; rfl
    have e3 : teI s i m = i := by unfold teI; rw [e1]; rfl
    have hd : decide ((4294967294 : Int) < m) = true := by simp; omega
    rw [e1, e2, e3, set_same hk]
    have H := Lib.hid h; clear h hk
    go_enter Try.func40, Try.ntmps40
    go_wp2
    exact bodyPost_ret (results_tmp2 rfl _ _ _) rfl ⟨rfl, H.out⟩
  · have hd : decide ((4294967294 : Int) < m) = false := by simp; omega
    by_cases m0 : m = 0
    · subst m0
      have e1 : teE s i 0 = 0 := rfl
      have e2 : teV s i 0 = 0 := rfl
      have e3 : teI s i 0 = i := rfl
      rw [e1, e2, e3, set_same hk]
      have H := Lib.hid h; clear h hk
      go_enter Try.func40, Try.ntmps40
      go_wp2
      exact bodyPost_ret (results_tmp2 rfl _ _ _) rfl ⟨rfl, H.out⟩
    · by_cases m1 : m = 1
      · subst m1
        have H := Lib.hid h; clear h
        have HK := Lib.hid hk; clear hk
        by_cases h5 : uE s i 1 = 0
        · have e1 : teE s i 1 = 0 := h5
          have e2 : teV s i 1 = 1 - uV s i 1 := by unfold teV; rw [e1]; rfl
          have e3 : teI s i 1 = uI s i 1 := by unfold teI; rw [e1]; rfl
          have hv := uV_one_le s i
          rw [e1, e2, e3]
          generalize hV : uV s i 1 = V at *
          have q1 : IntKind.u8.wrap (1 - (V : Int)) = ((1 - V : Nat) : Int) := by rw [IntKind.wrap_u8]; omega
          have q2 : IntKind.u64.wrap ((1 - V : Nat) : Int) = ((1 - V : Nat) : Int) := w_u64 (by omega)
          clear hv e1 e2 e3
          go_enter Try.func40, Try.ntmps40
          go_wp2_with (first | (go_at_call 15; refine (bit_any H.out k HK.out).mono ?_; rintro e w1 ⟨rfl, hS⟩; simp only [hV, h5] at hS ⊢))
          exact bodyPost_ret (results_tmp2 rfl _ _ _) rfl ⟨rfl, hS⟩
        · have e1 : teE s i 1 = uE s i 1 := rfl
          have e2 : teV s i 1 = 0 := by unfold teV; rw [e1, if_neg h5]
          have e3 : teI s i 1 = uI s i 1 := by unfold teI uI; rw [e1, if_neg h5, if_neg h5]
          have hb : (uE s i 1 == 0) = false := by simp [h5]
          rw [e1, e2, e3]
          clear h5 e1 e2 e3
          go_enter Try.func40, Try.ntmps40
          go_wp2_with (first | (go_at_call 15; refine (bit_any H.out k HK.out).mono ?_; rintro e w1 ⟨rfl, hS⟩))
          exact bodyPost_ret (results_tmp2 rfl _ _ _) rfl ⟨rfl, hS⟩
      · have hd3 : ((m : Int) == 0) = false := by simp; omega
        have hd4 : ((m : Int) == 1) = false := by simp; omega
        have H := Lib.hid h; clear h
        have HK := Lib.hid hk; clear hk
        have et : teE s i m = if ueE s i = 0 then (if m < ueV s i then 3 else 0) else ueE s i := by unfold teE; rw [if_neg c1, if_neg m0, if_neg m1]
        by_cases h0 : ueE s i = 0
        · rw [if_pos h0] at et
          by_cases hl : m < ueV s i
          · have e1 : teE s i m = 3 := by rw [et, if_pos hl]
            have e2 : teV s i m = 0 := by unfold teV; rw [e1]; rfl
            have e3 : teI s i m = i := by unfold teI; rw [e1]; rfl
            rw [e1, e2, e3, set_same HK.out]
            have hd5 : decide (m < ueV s i) = true := by simpa using hl
            clear e1 e2 e3 hl et m0 m1 c1
            go_enter Try.func40, Try.ntmps40
            go_wp2_with (first | (go_at_call 14; refine (copy_any H.out k HK.out).mono ?_; rintro e w1 ⟨cb, rfl, hS⟩) | (go_at_call 17; refine (gue_any hS 0 at0).mono ?_; rintro e w1 ⟨rfl, hS2⟩; simp only [set0, h0] at hS2 ⊢))
            exact bodyPost_ret (results_tmp2 rfl _ _ _) rfl ⟨rfl, hS2.tail⟩
          · have e1 : teE s i m = 0 := by rw [et, if_neg hl]
            have e2 : teV s i m = ueV s i := by unfold teV; rw [e1, if_pos rfl, if_neg m0, if_neg m1]
            have e3 : teI s i m = ueI s i := by unfold teI; rw [e1, if_pos rfl, if_neg m0, if_neg m1]
            rw [e1, e2, e3]
            have hd5 : decide (m < ueV s i) = false := by simpa using hl
            clear e1 e2 e3 hl et m0 m1 c1
            go_enter Try.func40, Try.ntmps40
            go_wp2_with (first | (go_at_call 14; refine (copy_any H.out k HK.out).mono ?_; rintro e w1 ⟨cb, rfl, hS⟩) | (go_at_call 17; refine (gue_any hS 0 at0).mono ?_; rintro e w1 ⟨rfl, hS2⟩; simp only [set0, h0] at hS2 ⊢; clear hS) | (go_at_call 17; refine (gue_any hS2 (k + 1) (at_succ HK.out)).mono ?_; rintro e w1 ⟨rfl, hS3⟩; simp only [set_succ, h0] at hS3 ⊢))
            exact bodyPost_ret (results_tmp2 rfl _ _ _) rfl ⟨rfl, hS3.tail⟩
        · rw [if_neg h0] at et
          have e2 : teV s i m = 0 := by unfold teV; rw [et, if_neg h0]
          have e3 : teI s i m = i := by unfold teI; rw [et, if_neg h0]
          have h0' : (ueE s i == 0) = false := by simp [h0]
          rw [et, e2, e3, set_same HK.out]
          clear e2 e3 et m0 m1 c1 h0
          go_enter Try.func40, Try.ntmps40
          go_wp2_with (first | (go_at_call 14; refine (copy_any H.out k HK.out).mono ?_; rintro e w1 ⟨cb, rfl, hS⟩) | (go_at_call 17; refine (gue_any hS 0 at0).mono ?_; rintro e w1 ⟨rfl, hS2⟩; simp only [set0] at hS2 ⊢))
          exact bodyPost_ret (results_tmp2 rfl _ _ _) rfl ⟨rfl, hS2.tail⟩

theorem gte_nil (m : Int) (w : World) : Calls Try.prog 40 #[.pointer none, .int .u64 m] w fun e w' => e = .returned (.tuple #[.int .u64 0, .int .i64 1]) ∧ w = w' := by
  go_enter Try.func40, Try.ntmps40
  go_wp2
  exact bodyPost_ret (results_tmp2 rfl _ _ _) rfl ⟨rfl, rfl⟩

theorem gput_uk {W w : World} {L : List AObj} {F : List (Nat × Obj)} (h : Hp W w L F) (k : Nat) {b : Nat} {B : List Bool} (hk : L[k]? = some (aWr b B)) (hB : B.length ≤ 2 ^ 39) (n : Int) (v : Nat) (hv : v < 18446744073709551616) :
    Calls Try.prog 28 #[.pointer (some ⟨b, 0, none⟩), .int .i64 n, .int .u64 v] w fun e w' => e = .returned (.int .i64 (pukE n v)) ∧ Hp W w' (L.set k (aWr b (pukB B n v))) F := by
  by_cases c1 : n < 0 ∨ 8 < n
  · have e1 : pukE n v = 3 := if_pos (by omega)
    have e2 : pukB B n v = B := by unfold pukB; rw [e1]; rfl
    rw [e1, e2, set_same hk]
    have H := Lib.hid h; clear h hk e1 e2
    by_cases c2 : n < 0
    · have hd : decide (n < 0) = true := by simpa using c2
      clear c1 c2
      go_enter Try.func28, Try.ntmps28
      go_wp2
      exact bodyPost_ret (results_tmp rfl _ _ _) rfl ⟨rfl, H.out⟩
    · have hd : decide (n < 0) = false := by simpa using c2
      have hd2 : decide (8 < n) = true := by simp; omega
      clear c1 c2
      go_enter Try.func28, Try.ntmps28
      go_wp2
      exact bodyPost_ret (results_tmp rfl _ _ _) rfl ⟨rfl, H.out⟩
  · obtain ⟨m, rfl⟩ : ∃ m : Nat, n = (m : Int) := ⟨n.toNat, by omega⟩
    have hm : m ≤ 8 := by omega
    have hd2 : decide ((8 : Int) < (m : Int)) = false := by simp; omega
    have q2 := and_mask_u64 hv (show m < 64 by omega)
    have hr : v % 2 ^ m < 2 ^ m := Nat.mod_lt _ (Nat.two_pow_pos _)
    have hr2 : v % 2 ^ m < 18446744073709551616 := Nat.lt_of_le_of_lt (Nat.mod_le _ _) hv
    have q1 : (v : Int) / 2 ^ m = ((v / 2 ^ m : Nat) : Int) := by push_cast; rfl
    have u1 : pukE m v = if (m : Int) < 0 ∨ 8 < (m : Int) ∨ 4294967294 < v / 2 ^ m then 3 else 0 := rfl
    have u2 : pukB B m v = if pukE m v = 0 then B ++ (ueB (v / 2 ^ m) ++ bitsN m (v % 2 ^ m)) else B := rfl
    generalize hD : v / 2 ^ m = D at *
    generalize hR : v % 2 ^ m = R at *
    by_cases c2 : 4294967294 < D
    · have e1 : pukE m v = 3 := by rw [u1, if_pos (by omega)]
      have e2 : pukB B m v = B := by rw [u2, e1]; rfl
      rw [e1, e2, set_same hk]
      have H := Lib.hid h; clear h hk e1 e2 u1 u2
      have hd3 : decide ((4294967294 : Int) < (D : Int)) = true := by simp; omega
      clear c1 c2 hr hr2 hD hR q2
      go_enter Try.func28, Try.ntmps28
      go_wp2
      exact bodyPost_ret (results_tmp rfl _ _ _) rfl ⟨rfl, H.out⟩
    · have e1 : pukE m v = 0 := by rw [u1, if_neg (by omega)]
      have e2 : pukB B m v = B ++ ueB D ++ bitsN m R := by rw [u2, if_pos e1, List.append_assoc]
      rw [e1, e2]
      have hd3 : decide ((4294967294 : Int) < (D : Int)) = false := by simp; omega
      have H := Lib.hid h; clear h e1 e2 u1 u2
      have HK := Lib.hid hk; clear hk
      have hp : pueE D = 0 := if_neg c2
      have hp2 : pueB B D = B ++ ueB D := by unfold pueB; rw [if_pos hp]
      have hl : (B ++ ueB D).length ≤ 2 ^ 40 := by
        have := ueN_le (v := D) (by omega)
        rw [List.length_append, ueB_length]; omega
      have hq : pE m R = 0 := pE_ok (by omega) hr
      have hq2 : pB (B ++ ueB D) m R = B ++ ueB D ++ bitsN m R := by unfold pB; rw [if_pos hq]; rfl
      have hd' : D < 18446744073709551616 := by omega
      have hB2 : B.length ≤ 2 ^ 40 := by omega
      clear c1 c2 hD hR hr
      go_enter Try.func28, Try.ntmps28
      go_wp2_with (first | (go_at_call 18; refine (gput_ue H.out k HK.out hB2 _ hd').mono ?_; rintro e w1 ⟨rfl, hS⟩; simp only [hp, hp2] at hS ⊢) | (go_at_call 49; refine (put_any hS k (set_at HK.out _) hl m _ hr2).mono ?_; rintro e w1 ⟨rfl, hS2⟩; simp only [hq, hq2, set_set] at hS2 ⊢))
      exact bodyPost_ret (results_tmp rfl _ _ _) rfl ⟨rfl, hS2⟩

theorem gput_uk_nil (n v : Int) (w : World) : Calls Try.prog 28 #[.pointer none, .int .i64 n, .int .u64 v] w fun e w' => e = .returned (.int .i64 1) ∧ w = w' := by
  go_enter Try.func28, Try.ntmps28
  go_wp2
  exact bodyPost_ret (results_tmp rfl _ _ _) rfl ⟨rfl, rfl⟩

def uk1V (s : ByteArray) (i m : Nat) : Nat := if ueE s i = 0 then ueV s i * 2 ^ m + uV s (ueI s i) m else 0
def uk1I (s : ByteArray) (i m : Nat) : Nat := if ueE s i = 0 then uI s (ueI s i) m else i

theorem Hp.cell0 {W w : World} {L : List AObj} {F : List (Nat × Obj)} (h : Hp W w L F) {q : Nat} {x : Value} {t : TypeId} (hq : (q, Obj.cells #[x] t (0, 0)) ∈ F) : w.cell? ⟨q, 0, none⟩ = some x := by
  have := h.blk hq
  simp [World.cell?, this]

theorem uk_val {a c m : Nat} (ha : a < 4294967295) (hm : m ≤ 8) (hc : c < 2 ^ m) : bits .or .u64 (IntKind.u64.wrap ((a : Int) * 2 ^ m)) (c : Int) = ((a * 2 ^ m + c : Nat) : Int) := by
  have h1 : 2 ^ m ≤ 2 ^ 8 := Nat.pow_le_pow_right (by omega) hm
  have h3 : (2 : Nat) ^ 8 = 256 := by decide
  have h2 : a * 2 ^ m ≤ 4294967295 * 256 := Nat.mul_le_mul (by omega) (by omega)
  have e : (a : Int) * 2 ^ m = ((a * 2 ^ m : Nat) : Int) := by push_cast; rfl
  rw [e, w_u64 (by omega)]
  exact or_u64 m hc (by omega)

theorem guk1_any {W w : World} {L : List AObj} {F : List (Nat × Obj)} (h : Hp W w L F) (k : Nat) {b : Nat} {s : ByteArray} {i : Nat} (hk : L[k]? = some (aRd b s i)) (q m : Nat) (hm : m ≤ 8) (hq : (q, Obj.cells #[.int .i64 (m : Int)] 3 (0, 0)) ∈ F) :
    Calls Try.prog 55 #[.pointer (some ⟨b, 0, none⟩), .pointer (some ⟨q, 0, none⟩)] w fun e w' => e = .returned (.tuple #[.int .u64 (uk1V s i m), .int .i64 (ukE s i m)]) ∧ Hp W w' (L.set k (aRd b s (uk1I s i m))) F := by
  have c0 : ¬ ((m : Int) < 0 ∨ 8 < (m : Int)) := by omega
  have HK := Lib.hid hk
  have H := Lib.hid h
  by_cases h0 : ueE s i = 0
  · have e1 : ukE s i m = uE s (ueI s i) m := by unfold ukE; rw [if_neg c0, if_pos h0]
    have e2 : uk1V s i m = ueV s i * 2 ^ m + uV s (ueI s i) m := if_pos h0
    have e3 : uk1I s i m = uI s (ueI s i) m := if_pos h0
    have hv := uk_val (ueV_lt s i) hm (show uV s (ueI s i) m < 2 ^ m from uV_lt)
    rw [e1, e2, e3]
    clear e1 e2 e3 c0 h hk
    go_enter Try.func55, Try.ntmps55
    go_wp2_with (first | (go_at_call 17; refine (gue_any H.out k HK.out).mono ?_; rintro e w1 ⟨rfl, hS⟩; have hc := hS.cell0 hq; simp only [h0] at hS ⊢) | (go_at_call 47; refine (u_any hS k (set_at HK.out _) m).mono ?_; rintro e w1 ⟨rfl, hS2⟩; simp only [set_set] at hS2; have hc2 := hS2.cell0 hq))
    exact bodyPost_ret (results_tmp2 rfl _ _ _) rfl ⟨rfl, hS2⟩
  · have e1 : ukE s i m = ueE s i := by unfold ukE; rw [if_neg c0, if_neg h0]
    have e2 : uk1V s i m = 0 := if_neg h0
    have e3 : uk1I s i m = i := if_neg h0
    have e4 : ueI s i = i := if_neg h0
    have h0' : (ueE s i == 0) = false := by simp [h0]
    rw [e1, e2, e3]
    clear e1 e2 e3 c0 h hk h0
    go_enter Try.func55, Try.ntmps55
    go_wp2_with (first | (go_at_call 17; refine (gue_any H.out k HK.out).mono ?_; rintro e w1 ⟨rfl, hS⟩; simp only [e4] at hS ⊢))
    exact bodyPost_ret (results_tmp2 rfl _ _ _) rfl ⟨rfl, hS⟩

theorem guk_any {W w : World} {L : List AObj} {F : List (Nat × Obj)} (h : Hp W w L F) (k : Nat) {b : Nat} {s : ByteArray} {i : Nat} (hk : L[k]? = some (aRd b s i)) (n : Int) :
    Calls Try.prog 42 #[.pointer (some ⟨b, 0, none⟩), .int .i64 n] w fun e w' => e = .returned (.tuple #[.int .u64 (ukV s i n), .int .i64 (ukE s i n)]) ∧ Hp W w' (L.set k (aRd b s (ukI s i n))) F := by
  by_cases c1 : n < 0 ∨ 8 < n
  · have e1 : ukE s i n = 3 := if_pos c1
    have e2 : ukV s i n = 0 := by unfold ukV; rw [e1]; rfl
    have e3 : ukI s i n = i := by unfold ukI; rw [e1]; rfl
    rw [e1, e2, e3, set_same hk]
    have H := Lib.hid h; clear h hk e1 e2 e3
    by_cases c2 : n < 0
    · have hd : decide (n < 0) = true := by simpa using c2
      clear c1 c2
      go_enter Try.func42, Try.ntmps42
      go_wp2
      exact bodyPost_ret (results_tmp2 rfl _ _ _) rfl ⟨rfl, H.out.lost _⟩
    · have hd : decide (n < 0) = false := by simpa using c2
      have hd2 : decide (8 < n) = true := by simp; omega
      clear c1 c2
      go_enter Try.func42, Try.ntmps42
      go_wp2
      exact bodyPost_ret (results_tmp2 rfl _ _ _) rfl ⟨rfl, H.out.lost _⟩
  · obtain ⟨m, rfl⟩ : ∃ m : Nat, n = (m : Int) := ⟨n.toNat, by omega⟩
    have hm : m ≤ 8 := by omega
    have hd2 : decide ((8 : Int) < (m : Int)) = false := by simp; omega
    have H := Lib.hid h; clear h
    have HK := Lib.hid hk; clear hk
    clear c1
    have H1 := Lib.hid (H.out.alloc (.cells #[.int .i64 (m : Int)] 3 (0, 0)))
    by_cases h0 : ukE s i m = 0
    · have h00 : ueE s i = 0 := by
        by_cases c : ueE s i = 0
        · exact c
        · unfold ukE at h0; rw [if_neg (by omega), if_neg c] at h0; exact absurd h0 c
      have e2 : ukV s i m = uk1V s i m := by unfold ukV uk1V; rw [if_pos h0, if_pos h00]; rfl
      have e3 : ukI s i m = uk1I s i m := by unfold ukI uk1I; rw [if_pos h0, if_pos h00]
      rw [h0, e2, e3]
      clear e2 e3 h00
      go_enter Try.func42, Try.ntmps42
      go_wp2_with (first | (go_at_call 14; refine (copy_any H1.out k HK.out).mono ?_; rintro e w1 ⟨cb, rfl, hS⟩) | (go_at_call 55; refine (guk1_any hS 0 at0 _ m hm (List.mem_cons_self ..)).mono ?_; rintro e w1 ⟨rfl, hS2⟩; simp only [set0, h0] at hS2 ⊢; clear hS) | (go_at_call 55; refine (guk1_any hS2 (k + 1) (at_succ HK.out) _ m hm (List.mem_cons_self ..)).mono ?_; rintro e w1 ⟨rfl, hS3⟩; simp only [set_succ, h0] at hS3 ⊢))
      exact bodyPost_ret (results_tmp2 rfl _ _ _) rfl ⟨rfl, hS3.tail.drop⟩
    · have e2 : ukV s i m = 0 := if_neg h0
      have e3 : ukI s i m = i := if_neg h0
      have h0' : (ukE s i m == 0) = false := by simp [h0]
      rw [e2, e3, set_same HK.out]
      clear e2 e3 h0
      go_enter Try.func42, Try.ntmps42
      go_wp2_with (first | (go_at_call 14; refine (copy_any H1.out k HK.out).mono ?_; rintro e w1 ⟨cb, rfl, hS⟩) | (go_at_call 55; refine (guk1_any hS 0 at0 _ m hm (List.mem_cons_self ..)).mono ?_; rintro e w1 ⟨rfl, hS2⟩; simp only [set0] at hS2 ⊢))
      exact bodyPost_ret (results_tmp2 rfl _ _ _) rfl ⟨rfl, hS2.tail.drop⟩

theorem guk_nil (n : Int) (w : World) : Calls Try.prog 42 #[.pointer none, .int .i64 n] w fun e w' => e = .returned (.tuple #[.int .u64 0, .int .i64 1]) ∧ Below w.heap.size w w' := by
  go_enter Try.func42, Try.ntmps42
  go_wp2
  exact bodyPost_ret (results_tmp2 rfl _ _ _) rfl ⟨rfl, (Below.refl _ _).alloc (Nat.le_refl _) _⟩

end Go.Proofs.Ytlmkabpdgemndaa
