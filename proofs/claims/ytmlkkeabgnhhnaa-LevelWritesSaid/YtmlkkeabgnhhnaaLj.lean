/- The reference's parts. -/
import Derived.Test.YtmlkkeabgnhhnaaLv
namespace Go.Proofs.Ytmlkkeabgnhhnaa
open Go.RowKit
set_option linter.unusedVariables false
set_option maxRecDepth 100000
set_option linter.unusedSimpArgs false

theorem results_tmp4 {fn : Func} {t u v x : Tmp} (h : fn.results = #[.tmp t, .tmp u, .tmp v, .tmp x]) (tmps : Array Value) (P : Program) (w : World) :
    (results fn tmps).run P w = .ok (.tuple #[tmps.getD t undef, tmps.getD u undef, tmps.getD v undef, tmps.getD x undef]) w := by
  simp [results, h]

set_option maxHeartbeats 8000000 in
theorem parts_any {W w : World} {L : List AObj} {F : List (Nat × Obj)} {b K l sk : Nat} (h : Hp W w L F) (k : Nat) (hk : L[k]? = some (aQco b K l sk)) (hK : K ≤ 6) (c : Nat) (hc : c ≤ 2 ^ 42) :
    Calls Try.prog 45 #[.pointer (some ⟨b, 0, none⟩), .int .i64 c] w fun e w' => e = .returned (if c ≤ mst K then .tuple #[.int .i64 (cP K c), .int .i64 (cV K c), .int .i64 (cN K c), .bool true] else .tuple #[.int .i64 0, .int .i64 0, .int .i64 0, .bool false]) ∧ ∃ m, w' = w.drewN m := by
  obtain ⟨c0, c1, c2, f0, f1, f2⟩ := aQco_cells h k hk
  have H := Lib.hid h
  clear h hk
  have : K = 0 ∨ K = 1 ∨ K = 2 ∨ K = 3 ∨ K = 4 ∨ K = 5 ∨ K = 6 := by omega
  clear hK
  rcases this with rfl | rfl | rfl | rfl | rfl | rfl | rfl
  · by_cases h0 : 4126 ≤ c
    · have t0 : decide (4126 ≤ (c : Int)) = true := by simp; omega
      rw [if_neg (show ¬ c ≤ mst 0 by show ¬ c ≤ 4125; omega)]
      go_enter Try.func45, Try.ntmps45
      go_wp2_with (fail)
      exact bodyPost_ret (results_tmp4 rfl _ _ _) rfl ⟨rfl, 0, rfl⟩
    · have t0 : decide (4126 ≤ (c : Int)) = false := by simp; omega
      rw [if_pos (show c ≤ mst 0 by show c ≤ 4125; omega)]
      by_cases h1 : 30 ≤ c
      · have t1 : decide (30 ≤ (c : Int)) = true := by simp; omega
        have P : cP 0 c = 15 ∧ cV 0 c = c - 30 ∧ cN 0 c = 12 := by
          unfold cP cV cN
          rw [show esc 0 = 30 from rfl]
          simp <;> (try split) <;> (try split) <;> omega
        rw [P.1, P.2.1, P.2.2]
        clear P
        go_enter Try.func45, Try.ntmps45
        go_wp2_with (fail)
        refine bodyPost_ret (results_tmp4 rfl _ _ _) rfl ⟨?_, ⟨0, rfl⟩⟩
        simp <;> omega
      · have t1 : decide (30 ≤ (c : Int)) = false := by simp; omega
        by_cases h2 : 14 ≤ c
        · have t2 : decide (14 ≤ (c : Int)) = true := by simp; omega
          have P : cP 0 c = 14 ∧ cV 0 c = c - 14 ∧ cN 0 c = 4 := by
            unfold cP cV cN
            rw [show esc 0 = 30 from rfl]
            simp <;> (try split) <;> (try split) <;> omega
          rw [P.1, P.2.1, P.2.2]
          clear P
          go_enter Try.func45, Try.ntmps45
          go_wp2_with (fail)
          refine bodyPost_ret (results_tmp4 rfl _ _ _) rfl ⟨?_, ⟨0, rfl⟩⟩
          simp <;> omega
        · have t2 : decide (14 ≤ (c : Int)) = false := by simp; omega
          have P : cP 0 c = c ∧ cV 0 c = 0 ∧ cN 0 c = 0 := by
            unfold cP cV cN
            rw [show esc 0 = 30 from rfl]
            simp <;> (try split) <;> (try split) <;> omega
          rw [P.1, P.2.1, P.2.2]
          clear P
          go_enter Try.func45, Try.ntmps45
          go_wp2_with (fail)
          go_quiet (fail)
          go_wp2_with (fail)
          refine bodyPost_ret (results_tmp4 rfl _ _ _) rfl ⟨?_, ⟨_, rfl⟩⟩
          simp <;> omega
  · by_cases h0 : 4126 ≤ c
    · have t0 : decide (4126 ≤ (c : Int)) = true := by simp; omega
      rw [if_neg (show ¬ c ≤ mst 1 by show ¬ c ≤ 4125; omega)]
      go_enter Try.func45, Try.ntmps45
      go_wp2_with (fail)
      exact bodyPost_ret (results_tmp4 rfl _ _ _) rfl ⟨rfl, 0, rfl⟩
    · have t0 : decide (4126 ≤ (c : Int)) = false := by simp; omega
      rw [if_pos (show c ≤ mst 1 by show c ≤ 4125; omega)]
      by_cases h1 : 30 ≤ c
      · have t1 : decide (30 ≤ (c : Int)) = true := by simp; omega
        have P : cP 1 c = 15 ∧ cV 1 c = c - 30 ∧ cN 1 c = 12 := by
          unfold cP cV cN
          rw [show esc 1 = 30 from rfl]
          simp <;> (try split) <;> (try split) <;> omega
        rw [P.1, P.2.1, P.2.2]
        clear P
        go_enter Try.func45, Try.ntmps45
        go_wp2_with (fail)
        refine bodyPost_ret (results_tmp4 rfl _ _ _) rfl ⟨?_, ⟨0, rfl⟩⟩
        simp <;> omega
      · have t1 : decide (30 ≤ (c : Int)) = false := by simp; omega
        have P : cP 1 c = c / 2 ∧ cV 1 c = c % 2 ∧ cN 1 c = 1 := by
          unfold cP cV cN
          rw [show esc 1 = 30 from rfl]
          simp <;> (try split) <;> (try split) <;> omega
        rw [P.1, P.2.1, P.2.2]
        clear P
        go_enter Try.func45, Try.ntmps45
        go_wp2_with (fail)
        go_quiet (fail)
        go_wp2_with (fail)
        refine bodyPost_ret (results_tmp4 rfl _ _ _) rfl ⟨?_, ⟨_, rfl⟩⟩
        simp <;> omega
  · by_cases h0 : 4156 ≤ c
    · have t0 : decide (4156 ≤ (c : Int)) = true := by simp; omega
      rw [if_neg (show ¬ c ≤ mst 2 by show ¬ c ≤ 4155; omega)]
      go_enter Try.func45, Try.ntmps45
      go_wp2_with (fail)
      exact bodyPost_ret (results_tmp4 rfl _ _ _) rfl ⟨rfl, 0, rfl⟩
    · have t0 : decide (4156 ≤ (c : Int)) = false := by simp; omega
      rw [if_pos (show c ≤ mst 2 by show c ≤ 4155; omega)]
      by_cases h1 : 60 ≤ c
      · have t1 : decide (60 ≤ (c : Int)) = true := by simp; omega
        have P : cP 2 c = 15 ∧ cV 2 c = c - 60 ∧ cN 2 c = 12 := by
          unfold cP cV cN
          rw [show esc 2 = 60 from rfl]
          simp <;> (try split) <;> (try split) <;> omega
        rw [P.1, P.2.1, P.2.2]
        clear P
        go_enter Try.func45, Try.ntmps45
        go_wp2_with (fail)
        refine bodyPost_ret (results_tmp4 rfl _ _ _) rfl ⟨?_, ⟨0, rfl⟩⟩
        simp <;> omega
      · have t1 : decide (60 ≤ (c : Int)) = false := by simp; omega
        have P : cP 2 c = c / 4 ∧ cV 2 c = c % 4 ∧ cN 2 c = 2 := by
          unfold cP cV cN
          rw [show esc 2 = 60 from rfl]
          simp <;> (try split) <;> (try split) <;> omega
        rw [P.1, P.2.1, P.2.2]
        clear P
        go_enter Try.func45, Try.ntmps45
        go_wp2_with (fail)
        go_quiet (fail)
        go_wp2_with (fail)
        refine bodyPost_ret (results_tmp4 rfl _ _ _) rfl ⟨?_, ⟨_, rfl⟩⟩
        simp <;> omega
  · by_cases h0 : 4216 ≤ c
    · have t0 : decide (4216 ≤ (c : Int)) = true := by simp; omega
      rw [if_neg (show ¬ c ≤ mst 3 by show ¬ c ≤ 4215; omega)]
      go_enter Try.func45, Try.ntmps45
      go_wp2_with (fail)
      exact bodyPost_ret (results_tmp4 rfl _ _ _) rfl ⟨rfl, 0, rfl⟩
    · have t0 : decide (4216 ≤ (c : Int)) = false := by simp; omega
      rw [if_pos (show c ≤ mst 3 by show c ≤ 4215; omega)]
      by_cases h1 : 120 ≤ c
      · have t1 : decide (120 ≤ (c : Int)) = true := by simp; omega
        have P : cP 3 c = 15 ∧ cV 3 c = c - 120 ∧ cN 3 c = 12 := by
          unfold cP cV cN
          rw [show esc 3 = 120 from rfl]
          simp <;> (try split) <;> (try split) <;> omega
        rw [P.1, P.2.1, P.2.2]
        clear P
        go_enter Try.func45, Try.ntmps45
        go_wp2_with (fail)
        refine bodyPost_ret (results_tmp4 rfl _ _ _) rfl ⟨?_, ⟨0, rfl⟩⟩
        simp <;> omega
      · have t1 : decide (120 ≤ (c : Int)) = false := by simp; omega
        have P : cP 3 c = c / 8 ∧ cV 3 c = c % 8 ∧ cN 3 c = 3 := by
          unfold cP cV cN
          rw [show esc 3 = 120 from rfl]
          simp <;> (try split) <;> (try split) <;> omega
        rw [P.1, P.2.1, P.2.2]
        clear P
        go_enter Try.func45, Try.ntmps45
        go_wp2_with (fail)
        go_quiet (fail)
        go_wp2_with (fail)
        refine bodyPost_ret (results_tmp4 rfl _ _ _) rfl ⟨?_, ⟨_, rfl⟩⟩
        simp <;> omega
  · by_cases h0 : 4336 ≤ c
    · have t0 : decide (4336 ≤ (c : Int)) = true := by simp; omega
      rw [if_neg (show ¬ c ≤ mst 4 by show ¬ c ≤ 4335; omega)]
      go_enter Try.func45, Try.ntmps45
      go_wp2_with (fail)
      exact bodyPost_ret (results_tmp4 rfl _ _ _) rfl ⟨rfl, 0, rfl⟩
    · have t0 : decide (4336 ≤ (c : Int)) = false := by simp; omega
      rw [if_pos (show c ≤ mst 4 by show c ≤ 4335; omega)]
      by_cases h1 : 240 ≤ c
      · have t1 : decide (240 ≤ (c : Int)) = true := by simp; omega
        have P : cP 4 c = 15 ∧ cV 4 c = c - 240 ∧ cN 4 c = 12 := by
          unfold cP cV cN
          rw [show esc 4 = 240 from rfl]
          simp <;> (try split) <;> (try split) <;> omega
        rw [P.1, P.2.1, P.2.2]
        clear P
        go_enter Try.func45, Try.ntmps45
        go_wp2_with (fail)
        refine bodyPost_ret (results_tmp4 rfl _ _ _) rfl ⟨?_, ⟨0, rfl⟩⟩
        simp <;> omega
      · have t1 : decide (240 ≤ (c : Int)) = false := by simp; omega
        have P : cP 4 c = c / 16 ∧ cV 4 c = c % 16 ∧ cN 4 c = 4 := by
          unfold cP cV cN
          rw [show esc 4 = 240 from rfl]
          simp <;> (try split) <;> (try split) <;> omega
        rw [P.1, P.2.1, P.2.2]
        clear P
        go_enter Try.func45, Try.ntmps45
        go_wp2_with (fail)
        go_quiet (fail)
        go_wp2_with (fail)
        refine bodyPost_ret (results_tmp4 rfl _ _ _) rfl ⟨?_, ⟨_, rfl⟩⟩
        simp <;> omega
  · by_cases h0 : 4576 ≤ c
    · have t0 : decide (4576 ≤ (c : Int)) = true := by simp; omega
      rw [if_neg (show ¬ c ≤ mst 5 by show ¬ c ≤ 4575; omega)]
      go_enter Try.func45, Try.ntmps45
      go_wp2_with (fail)
      exact bodyPost_ret (results_tmp4 rfl _ _ _) rfl ⟨rfl, 0, rfl⟩
    · have t0 : decide (4576 ≤ (c : Int)) = false := by simp; omega
      rw [if_pos (show c ≤ mst 5 by show c ≤ 4575; omega)]
      by_cases h1 : 480 ≤ c
      · have t1 : decide (480 ≤ (c : Int)) = true := by simp; omega
        have P : cP 5 c = 15 ∧ cV 5 c = c - 480 ∧ cN 5 c = 12 := by
          unfold cP cV cN
          rw [show esc 5 = 480 from rfl]
          simp <;> (try split) <;> (try split) <;> omega
        rw [P.1, P.2.1, P.2.2]
        clear P
        go_enter Try.func45, Try.ntmps45
        go_wp2_with (fail)
        refine bodyPost_ret (results_tmp4 rfl _ _ _) rfl ⟨?_, ⟨0, rfl⟩⟩
        simp <;> omega
      · have t1 : decide (480 ≤ (c : Int)) = false := by simp; omega
        have P : cP 5 c = c / 32 ∧ cV 5 c = c % 32 ∧ cN 5 c = 5 := by
          unfold cP cV cN
          rw [show esc 5 = 480 from rfl]
          simp <;> (try split) <;> (try split) <;> omega
        rw [P.1, P.2.1, P.2.2]
        clear P
        go_enter Try.func45, Try.ntmps45
        go_wp2_with (fail)
        go_quiet (fail)
        go_wp2_with (fail)
        refine bodyPost_ret (results_tmp4 rfl _ _ _) rfl ⟨?_, ⟨_, rfl⟩⟩
        simp <;> omega
  · by_cases h0 : 5056 ≤ c
    · have t0 : decide (5056 ≤ (c : Int)) = true := by simp; omega
      rw [if_neg (show ¬ c ≤ mst 6 by show ¬ c ≤ 5055; omega)]
      go_enter Try.func45, Try.ntmps45
      go_wp2_with (fail)
      exact bodyPost_ret (results_tmp4 rfl _ _ _) rfl ⟨rfl, 0, rfl⟩
    · have t0 : decide (5056 ≤ (c : Int)) = false := by simp; omega
      rw [if_pos (show c ≤ mst 6 by show c ≤ 5055; omega)]
      by_cases h1 : 960 ≤ c
      · have t1 : decide (960 ≤ (c : Int)) = true := by simp; omega
        have P : cP 6 c = 15 ∧ cV 6 c = c - 960 ∧ cN 6 c = 12 := by
          unfold cP cV cN
          rw [show esc 6 = 960 from rfl]
          simp <;> (try split) <;> (try split) <;> omega
        rw [P.1, P.2.1, P.2.2]
        clear P
        go_enter Try.func45, Try.ntmps45
        go_wp2_with (fail)
        refine bodyPost_ret (results_tmp4 rfl _ _ _) rfl ⟨?_, ⟨0, rfl⟩⟩
        simp <;> omega
      · have t1 : decide (960 ≤ (c : Int)) = false := by simp; omega
        have P : cP 6 c = c / 64 ∧ cV 6 c = c % 64 ∧ cN 6 c = 6 := by
          unfold cP cV cN
          rw [show esc 6 = 960 from rfl]
          simp <;> (try split) <;> (try split) <;> omega
        rw [P.1, P.2.1, P.2.2]
        clear P
        go_enter Try.func45, Try.ntmps45
        go_wp2_with (fail)
        go_quiet (fail)
        go_wp2_with (fail)
        refine bodyPost_ret (results_tmp4 rfl _ _ _) rfl ⟨?_, ⟨_, rfl⟩⟩
        simp <;> omega

end Go.Proofs.Ytmlkkeabgnhhnaa
