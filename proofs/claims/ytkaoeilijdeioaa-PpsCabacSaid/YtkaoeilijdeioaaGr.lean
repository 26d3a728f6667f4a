/- The reference's other Exp-Golomb codes: they say what the program's say. -/
import Derived.Test.YtkaoeilijdeioaaGq
namespace Go.Proofs.Ytkaoeilijdeioaa
open Go.RowKit
set_option linter.unusedVariables false
set_option maxRecDepth 100000
set_option linter.unusedSimpArgs false

theorem qgput_se {W w : World} {L : List AObj} {F : List (Nat × Obj)} (h : Hp W w L F) (k : Nat) {b : Nat} {B : List Bool} (hk : L[k]? = some (aQwr b B)) (hB : B.length ≤ 2 ^ 39) (v : Int) (h1 : -9223372036854775808 ≤ v) (h2 : v ≤ 9223372036854775807) :
    Calls Try.prog 31 #[.pointer (some ⟨b, 0, none⟩), .int .i64 v] w fun e w' => e = .returned (.int .i64 (pseE v)) ∧ Hp W w' (L.set k (aQwr b (pseB B v))) F := by
  by_cases c1 : v < -2147483647 ∨ 2147483647 < v
  · have e1 : pseE v = 3 := if_pos c1
    have e2 : pseB B v = B := by unfold pseB; rw [e1]; rfl
    rw [e1, e2, set_same hk]
    have H := Lib.hid h; clear h hk e1 e2
    rcases c1 with c1 | c1
    · have hd : decide (v < -2147483647) = true := by simpa using c1
      go_enter Try.func31, Try.ntmps31
      go_wp2
      exact bodyPost_ret (results_tmp rfl _ _ _) rfl ⟨rfl, H.out⟩
    · have hd : decide (v < -2147483647) = false := by simp; omega
      have hd2 : decide (2147483647 < v) = true := by simpa using c1
      go_enter Try.func31, Try.ntmps31
      go_wp2
      exact bodyPost_ret (results_tmp rfl _ _ _) rfl ⟨rfl, H.out⟩
  · have e1 : pseE v = 0 := if_neg c1
    have e2 : pseB B v = B ++ ueB (seN v) := by unfold pseB; rw [if_pos e1]
    have hd : decide (v < -2147483647) = false := by simp; omega
    have hd2 : decide (2147483647 < v) = false := by simp; omega
    have hb : -2147483647 ≤ v ∧ v ≤ 2147483647 := by omega
    rw [e1, e2]
    have H := Lib.hid h; clear h e1 e2 c1
    have HK := Lib.hid hk; clear hk
    by_cases h0 : 0 < v
    · have hn : seN v = (2 * v - 1).toNat := if_pos h0
      obtain ⟨n, hn'⟩ : ∃ n : Nat, 2 * v - 1 = (n : Int) := ⟨(2 * v - 1).toNat, by omega⟩
      have hn2 : seN v = n := by omega
      have hd3 : decide (0 < v) = true := by simpa using h0
      have hp : pueE n = 0 := if_neg (by omega)
      have hp2 : pueB B n = B ++ ueB n := by unfold pueB; rw [if_pos hp]
      have q1 : IntKind.i64.wrap (2 * v - 1) = (n : Int) := by rw [← hn']; exact IntWalk.i64_in _ (by omega)
      have q2 : IntKind.i64.wrap (2 * v) = 2 * v := IntWalk.i64_in _ (by omega)
      have q3 : IntKind.u64.wrap (n : Int) = n := w_u64 (by omega)
      have hn64 : n < 18446744073709551616 := by omega
      rw [hn2]
      clear hn hn2
      have Hn := Lib.hid hn'; clear hn'
      clear h0
      go_enter Try.func31, Try.ntmps31
      go_wp2_with (first | (go_at_call 28; refine (qgput_ue H.out k HK.out hB n hn64).mono ?_; rintro e w1 ⟨rfl, hS⟩; simp only [hp, hp2] at hS ⊢))
      exact bodyPost_ret (results_tmp rfl _ _ _) rfl ⟨rfl, hS⟩
    · have hn : seN v = (-2 * v).toNat := if_neg h0
      obtain ⟨n, hn'⟩ : ∃ n : Nat, -2 * v = (n : Int) := ⟨(-2 * v).toNat, by omega⟩
      have hn2 : seN v = n := by omega
      have hd3 : decide (0 < v) = false := by simpa using h0
      have hp : pueE n = 0 := if_neg (by omega)
      have hp2 : pueB B n = B ++ ueB n := by unfold pueB; rw [if_pos hp]
      have q1 : IntKind.i64.wrap (-2 * v) = (n : Int) := by rw [← hn']; exact IntWalk.i64_in _ (by omega)
      have q3 : IntKind.u64.wrap (n : Int) = n := w_u64 (by omega)
      have hn64 : n < 18446744073709551616 := by omega
      rw [hn2]
      clear hn hn2
      have Hn := Lib.hid hn'; clear hn'
      clear h0
      go_enter Try.func31, Try.ntmps31
      go_wp2_with (first | (go_at_call 28; refine (qgput_ue H.out k HK.out hB n hn64).mono ?_; rintro e w1 ⟨rfl, hS⟩; simp only [hp, hp2] at hS ⊢))
      exact bodyPost_ret (results_tmp rfl _ _ _) rfl ⟨rfl, hS⟩

theorem qgse_any {W w : World} {L : List AObj} {F : List (Nat × Obj)} (h : Hp W w L F) (k : Nat) {b : Nat} {s : ByteArray} {i : Nat} (hk : L[k]? = some (aQrd b s i)) :
    Calls Try.prog 79 #[.pointer (some ⟨b, 0, none⟩)] w fun e w' => e = .returned (.tuple #[.int .i64 (seV s i), .int .i64 (ueE s i)]) ∧ Hp W w' (L.set k (aQrd b s (ueI s i))) F := by
  have HK := Lib.hid hk; clear hk
  have H := Lib.hid h; clear h
  have hv := ueV_lt s i
  by_cases h0 : ueE s i = 0
  · unfold seV
    obtain ⟨V, hV⟩ : ∃ V, V = ueV s i := ⟨_, rfl⟩
    rw [← hV] at hv ⊢
    have HV := Lib.hid (And.intro hV.symm h0); clear hV h0
    have q2 : IntKind.i64.wrap ((V : Int) / 2) = (V : Int) / 2 := IntWalk.i64_in _ (by omega)
    by_cases h2 : V % 2 = 1
    · have q1 : (V : Int) % 2 = 1 := by omega
      rw [if_pos h2]
      clear h2
      go_enter Try.func79, Try.ntmps79
      go_wp2_with (first | (go_at_call 70; refine (qgue_any H.out k HK.out).mono ?_; rintro e w1 ⟨rfl, hS⟩; simp only [HV.out.1, HV.out.2] at hS ⊢))
      refine bodyPost_ret (results_tmp2 rfl _ _ _) rfl ⟨?_, hS⟩
      rw [HV.out.2, show ((V / 2 + 1 : Nat) : Int) = (V : Int) / 2 + 1 by omega]; rfl
    · have q1 : (V : Int) % 2 = 0 := by omega
      rw [if_neg h2]
      clear h2
      go_enter Try.func79, Try.ntmps79
      go_wp2_with (first | (go_at_call 70; refine (qgue_any H.out k HK.out).mono ?_; rintro e w1 ⟨rfl, hS⟩; simp only [HV.out.1, HV.out.2] at hS ⊢))
      refine bodyPost_ret (results_tmp2 rfl _ _ _) rfl ⟨?_, hS⟩
      rw [HV.out.2, show ((V / 2 : Nat) : Int) = (V : Int) / 2 by omega]; rfl
  · have h0' : (ueE s i == 0) = false := by simp [h0]
    have e1 : seV s i = 0 := by unfold seV; rw [ueV_not h0]; rfl
    rw [e1]
    clear hv h0 e1
    go_enter Try.func79, Try.ntmps79
    go_wp2_with (first | (go_at_call 70; refine (qgue_any H.out k HK.out).mono ?_; rintro e w1 ⟨rfl, hS⟩))
    exact bodyPost_ret (results_tmp2 rfl _ _ _) rfl ⟨rfl, hS⟩

end Go.Proofs.Ytkaoeilijdeioaa
