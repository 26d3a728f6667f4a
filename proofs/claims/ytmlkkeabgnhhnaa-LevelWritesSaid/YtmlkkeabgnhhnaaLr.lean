/- The program's Read. -/
import Derived.Test.YtmlkkeabgnhhnaaLu
namespace Go.Proofs.Ytmlkkeabgnhhnaa
open Go.RowKit
set_option linter.unusedVariables false
set_option maxRecDepth 100000
set_option linter.unusedSimpArgs false

/-- The suffix' bits and the base behind a prefix P. -/
def nS (K P : Nat) : Nat := if P = 15 then 12 else if 0 < K then K else if P = 14 then 4 else 0
def bS (K P : Nat) : Nat := if P = 15 then esc K else if 0 < K then P * 2 ^ K else P
def gL (s : ByteArray) (i : Nat) : Nat := zr s i 16
/-- What Read says. -/
def lrE (K l : Nat) (s : ByteArray) (i : Nat) : Int := if l = 0 then 8 else if gL s i = 16 then 4 else if uE s (i + gL s i) 1 ≠ 0 then 5 else uE s (i + gL s i + 1) (nS K (gL s i))
def lrN (K sk : Nat) (s : ByteArray) (i : Nat) : Nat := bS K (gL s i) + uV s (i + gL s i + 1) (nS K (gL s i)) + sk
def lvl (n : Nat) : Int := if n % 2 = 1 then -((n / 2 + 1 : Nat) : Int) else ((n / 2 + 1 : Nat) : Int)
def lrV (K l sk : Nat) (s : ByteArray) (i : Nat) : Int := if lrE K l s i = 0 then lvl (lrN K sk s i) else 0
def lrI (K l : Nat) (s : ByteArray) (i : Nat) : Nat := if lrE K l s i = 0 then i + gL s i + 1 + nS K (gL s i) else i
def lrK (K l sk : Nat) (s : ByteArray) (i : Nat) : Nat := if lrE K l s i = 0 then nxt K (lrN K sk s i / 2 + 1) else K
def lrL (K l : Nat) (s : ByteArray) (i : Nat) : Nat := if lrE K l s i = 0 then l - 1 else l
def lrS (K l sk : Nat) (s : ByteArray) (i : Nat) : Nat := if lrE K l s i = 0 then 0 else sk

set_option maxHeartbeats 4000000 in
theorem rd1_any {W w : World} {L : List AObj} {F : List (Nat × Obj)} {b K l sk : Nat} (h : Hp W w L F) (k : Nat) (hk : L[k]? = some (aCo b K l sk)) (hK : K ≤ 6) {x1 x2 P : Nat} (hP : P ≤ 15)
    (m2 : (x2, Obj.cells #[.int .i64 P] 3 (0, 0)) ∈ F) (m1 : (x1, Obj.cells #[.pointer (some ⟨b, 0, none⟩)] 24 (0, 0)) ∈ F) :
    Calls Try.prog 49 #[.pointer (some ⟨x2, 0, none⟩), .pointer (some ⟨x1, 0, none⟩)] w fun e w' => e = .returned (.tuple #[.int .i64 (bS K P), .int .i64 (nS K P)]) ∧ ∃ n, w' = w.drewN n := by
  obtain ⟨c0, c1, c2, f0, f1, f2⟩ := aCo_cells h k hk
  have p0 := cell_in h m2 (c := 0) rfl
  have p1 := cell_in h m1 (c := 0) rfl
  clear h hk m1 m2
  have : K = 0 ∨ K = 1 ∨ K = 2 ∨ K = 3 ∨ K = 4 ∨ K = 5 ∨ K = 6 := by omega
  clear hK
  rcases this with rfl | rfl | rfl | rfl | rfl | rfl | rfl
  · have EK := esc_lit 0 (x := 0) (y := 30) (by decide) rfl rfl
    by_cases h15 : P = 15
    · subst h15
      have R : bS 0 15 = 30 ∧ nS 0 15 = 12 := ⟨by rfl, by rfl⟩
      rw [R.1, R.2]
      clear R
      go_enter Try.func49, Try.ntmps49
      go_wp2_with (first | (go_at_call 50; (with_reducible refine (EK _).mono ?_); rintro e w1 ⟨rfl, rfl⟩))
      exact bodyPost_ret (results_tmp2 rfl _ _ _) rfl ⟨rfl, 0, rfl⟩
    · by_cases h14 : P = 14
      · subst h14
        have R : bS 0 14 = 14 ∧ nS 0 14 = 4 := ⟨by rfl, by rfl⟩
        rw [R.1, R.2]
        clear R h15
        go_enter Try.func49, Try.ntmps49
        go_wp2_with (fail)
        exact bodyPost_ret (results_tmp2 rfl _ _ _) rfl ⟨rfl, 0, rfl⟩
      · have R : bS 0 P = P ∧ nS 0 P = 0 := by unfold bS nS; rw [if_neg h15, if_neg h15, if_neg h14]; exact ⟨rfl, rfl⟩
        have t1 : ((P : Int) == 15) = false := by simp; omega
        have t2 : ((P : Int) == 14) = false := by simp; omega
        rw [R.1, R.2]
        clear R h15 h14
        go_enter Try.func49, Try.ntmps49
        go_wp2_with (fail)
        exact bodyPost_ret (results_tmp2 rfl _ _ _) rfl ⟨rfl, 0, rfl⟩
  · have EK := esc_lit 1 (x := 1) (y := 30) (by decide) rfl rfl
    by_cases h15 : P = 15
    · subst h15
      have R : bS 1 15 = 30 ∧ nS 1 15 = 12 := ⟨by rfl, by rfl⟩
      rw [R.1, R.2]
      clear R
      go_enter Try.func49, Try.ntmps49
      go_wp2_with (first | (go_at_call 50; (with_reducible refine (EK _).mono ?_); rintro e w1 ⟨rfl, rfl⟩))
      exact bodyPost_ret (results_tmp2 rfl _ _ _) rfl ⟨rfl, 0, rfl⟩
    · have R : bS 1 P = P * 2 ∧ nS 1 P = 1 := by unfold bS nS; rw [if_neg h15, if_neg h15]; exact ⟨rfl, rfl⟩
      have t1 : ((P : Int) == 15) = false := by simp; omega
      rw [R.1, R.2]
      clear R h15
      go_enter Try.func49, Try.ntmps49
      go_wp2_with (fail)
      go_quiet (fail)
      go_wp2_with (fail)
      refine bodyPost_ret (results_tmp2 rfl _ _ _) rfl ⟨?_, _, rfl⟩
      simp <;> omega
  · have EK := esc_lit 2 (x := 2) (y := 60) (by decide) rfl rfl
    by_cases h15 : P = 15
    · subst h15
      have R : bS 2 15 = 60 ∧ nS 2 15 = 12 := ⟨by rfl, by rfl⟩
      rw [R.1, R.2]
      clear R
      go_enter Try.func49, Try.ntmps49
      go_wp2_with (first | (go_at_call 50; (with_reducible refine (EK _).mono ?_); rintro e w1 ⟨rfl, rfl⟩))
      exact bodyPost_ret (results_tmp2 rfl _ _ _) rfl ⟨rfl, 0, rfl⟩
    · have R : bS 2 P = P * 4 ∧ nS 2 P = 2 := by unfold bS nS; rw [if_neg h15, if_neg h15]; exact ⟨rfl, rfl⟩
      have t1 : ((P : Int) == 15) = false := by simp; omega
      rw [R.1, R.2]
      clear R h15
      go_enter Try.func49, Try.ntmps49
      go_wp2_with (fail)
      go_quiet (fail)
      go_wp2_with (fail)
      refine bodyPost_ret (results_tmp2 rfl _ _ _) rfl ⟨?_, _, rfl⟩
      simp <;> omega
  · have EK := esc_lit 3 (x := 3) (y := 120) (by decide) rfl rfl
    by_cases h15 : P = 15
    · subst h15
      have R : bS 3 15 = 120 ∧ nS 3 15 = 12 := ⟨by rfl, by rfl⟩
      rw [R.1, R.2]
      clear R
      go_enter Try.func49, Try.ntmps49
      go_wp2_with (first | (go_at_call 50; (with_reducible refine (EK _).mono ?_); rintro e w1 ⟨rfl, rfl⟩))
      exact bodyPost_ret (results_tmp2 rfl _ _ _) rfl ⟨rfl, 0, rfl⟩
    · have R : bS 3 P = P * 8 ∧ nS 3 P = 3 := by unfold bS nS; rw [if_neg h15, if_neg h15]; exact ⟨rfl, rfl⟩
      have t1 : ((P : Int) == 15) = false := by simp; omega
      rw [R.1, R.2]
      clear R h15
      go_enter Try.func49, Try.ntmps49
      go_wp2_with (fail)
      go_quiet (fail)
      go_wp2_with (fail)
      refine bodyPost_ret (results_tmp2 rfl _ _ _) rfl ⟨?_, _, rfl⟩
      simp <;> omega
  · have EK := esc_lit 4 (x := 4) (y := 240) (by decide) rfl rfl
    by_cases h15 : P = 15
    · subst h15
      have R : bS 4 15 = 240 ∧ nS 4 15 = 12 := ⟨by rfl, by rfl⟩
      rw [R.1, R.2]
      clear R
      go_enter Try.func49, Try.ntmps49
      go_wp2_with (first | (go_at_call 50; (with_reducible refine (EK _).mono ?_); rintro e w1 ⟨rfl, rfl⟩))
      exact bodyPost_ret (results_tmp2 rfl _ _ _) rfl ⟨rfl, 0, rfl⟩
    · have R : bS 4 P = P * 16 ∧ nS 4 P = 4 := by unfold bS nS; rw [if_neg h15, if_neg h15]; exact ⟨rfl, rfl⟩
      have t1 : ((P : Int) == 15) = false := by simp; omega
      rw [R.1, R.2]
      clear R h15
      go_enter Try.func49, Try.ntmps49
      go_wp2_with (fail)
      go_quiet (fail)
      go_wp2_with (fail)
      refine bodyPost_ret (results_tmp2 rfl _ _ _) rfl ⟨?_, _, rfl⟩
      simp <;> omega
  · have EK := esc_lit 5 (x := 5) (y := 480) (by decide) rfl rfl
    by_cases h15 : P = 15
    · subst h15
      have R : bS 5 15 = 480 ∧ nS 5 15 = 12 := ⟨by rfl, by rfl⟩
      rw [R.1, R.2]
      clear R
      go_enter Try.func49, Try.ntmps49
      go_wp2_with (first | (go_at_call 50; (with_reducible refine (EK _).mono ?_); rintro e w1 ⟨rfl, rfl⟩))
      exact bodyPost_ret (results_tmp2 rfl _ _ _) rfl ⟨rfl, 0, rfl⟩
    · have R : bS 5 P = P * 32 ∧ nS 5 P = 5 := by unfold bS nS; rw [if_neg h15, if_neg h15]; exact ⟨rfl, rfl⟩
      have t1 : ((P : Int) == 15) = false := by simp; omega
      rw [R.1, R.2]
      clear R h15
      go_enter Try.func49, Try.ntmps49
      go_wp2_with (fail)
      go_quiet (fail)
      go_wp2_with (fail)
      refine bodyPost_ret (results_tmp2 rfl _ _ _) rfl ⟨?_, _, rfl⟩
      simp <;> omega
  · have EK := esc_lit 6 (x := 6) (y := 960) (by decide) rfl rfl
    by_cases h15 : P = 15
    · subst h15
      have R : bS 6 15 = 960 ∧ nS 6 15 = 12 := ⟨by rfl, by rfl⟩
      rw [R.1, R.2]
      clear R
      go_enter Try.func49, Try.ntmps49
      go_wp2_with (first | (go_at_call 50; (with_reducible refine (EK _).mono ?_); rintro e w1 ⟨rfl, rfl⟩))
      exact bodyPost_ret (results_tmp2 rfl _ _ _) rfl ⟨rfl, 0, rfl⟩
    · have R : bS 6 P = P * 64 ∧ nS 6 P = 6 := by unfold bS nS; rw [if_neg h15, if_neg h15]; exact ⟨rfl, rfl⟩
      have t1 : ((P : Int) == 15) = false := by simp; omega
      rw [R.1, R.2]
      clear R h15
      go_enter Try.func49, Try.ntmps49
      go_wp2_with (fail)
      go_quiet (fail)
      go_wp2_with (fail)
      refine bodyPost_ret (results_tmp2 rfl _ _ _) rfl ⟨?_, _, rfl⟩
      simp <;> omega

end Go.Proofs.Ytmlkkeabgnhhnaa
