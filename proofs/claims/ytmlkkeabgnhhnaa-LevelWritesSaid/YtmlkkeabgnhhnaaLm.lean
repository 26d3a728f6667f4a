/- The reference's Has, Most. -/
import Derived.Test.YtmlkkeabgnhhnaaLi
namespace Go.Proofs.Ytmlkkeabgnhhnaa
open Go.RowKit
set_option linter.unusedVariables false
set_option maxRecDepth 100000
set_option linter.unusedSimpArgs false

theorem parts_as {W w : World} {L : List AObj} {F : List (Nat × Obj)} {b K l sk : Nat} (h : Hp W w L F) (k : Nat) (hk : L[k]? = some (aQco b K l sk)) (hK : K ≤ 6) (c : Nat) (hc : c ≤ 2 ^ 42) {x p v n : Int} {i : Bool} (hx : x = (c : Int))
    (hr : (if c ≤ mst K then Value.tuple #[.int .i64 (cP K c), .int .i64 (cV K c), .int .i64 (cN K c), .bool true] else .tuple #[.int .i64 0, .int .i64 0, .int .i64 0, .bool false]) = .tuple #[.int .i64 p, .int .i64 v, .int .i64 n, .bool i]) :
    Calls Try.prog 45 #[.pointer (some ⟨b, 0, none⟩), .int .i64 x] w fun e w' => e = .returned (.tuple #[.int .i64 p, .int .i64 v, .int .i64 n, .bool i]) ∧ ∃ m, w' = w.drewN m := by
  subst hx
  rw [← hr]
  exact parts_any h k hk hK c hc
theorem number_as {v x : Int} (hv : v.natAbs ≤ 2 ^ 40) (hv0 : v ≠ 0) (hx : (lnum v : Int) = x) (w : World) : Calls Try.prog 46 #[.int .i64 v] w fun e w' => e = .returned (.int .i64 x) ∧ w' = w := by
  subst hx
  exact (number_any v hv hv0 w).mono fun _ _ h => ⟨h.1, h.2.symm⟩
theorem lnum_bounds {v : Int} : 2 * (v.natAbs - 1) ≤ lnum v ∧ lnum v ≤ 2 * (v.natAbs - 1) + 1 := by
  unfold lnum
  split <;> omega

theorem has_any {W w : World} {L : List AObj} {F : List (Nat × Obj)} {b K l sk : Nat} (h : Hp W w L F) (k : Nat) (hk : L[k]? = some (aQco b K l sk)) (hK : K ≤ 6) (v : Int) (hv1 : -9223372036854775808 ≤ v) (hv2 : v < 9223372036854775808) (hv0 : v ≠ 0) (hsk : sk ≤ 2) (hvs : 0 < sk → v.natAbs ≠ 1) :
    Calls Try.prog 44 #[.pointer (some ⟨b, 0, none⟩), .int .i64 v] w fun e w' => e = .returned (.bool (decide (lnum v ≤ mst K + sk))) ∧ ∃ m, w' = w.drewN m := by
  obtain ⟨c0, c1, c2, f0, f1, f2⟩ := aQco_cells h k hk
  have hB := lnum_bounds (v := v)
  have hM : mst K ≤ 6000 := by unfold mst; have := esc_le K hK; omega
  have H := Lib.hid h
  have HK := Lib.hid hk
  clear h hk
  by_cases h1 : v < -32768
  · have e : decide (lnum v ≤ mst K + sk) = false := by simp; omega
    rw [e]
    clear e hB hvs
    go_enter Try.func44, Try.ntmps44
    go_wp2_with (fail)
    exact bodyPost_ret (results_tmp rfl _ _ _) rfl ⟨rfl, 0, rfl⟩
  · by_cases h2 : 32768 < v
    · have e : decide (lnum v ≤ mst K + sk) = false := by simp; omega
      rw [e]
      clear e hB hvs
      go_enter Try.func44, Try.ntmps44
      go_wp2_with (fail)
      exact bodyPost_ret (results_tmp rfl _ _ _) rfl ⟨rfl, 0, rfl⟩
    · have hs1 : sk ≤ lnum v := by omega
      have hs2 : lnum v ≤ 70000 := by omega
      obtain ⟨N, hN⟩ : ∃ N, N = lnum v := ⟨_, rfl⟩
      rw [← hN] at hs1 hs2 ⊢
      obtain ⟨p, q, n, hr⟩ : ∃ p q n : Int, (if N - sk ≤ mst K then Value.tuple #[.int .i64 (cP K (N - sk)), .int .i64 (cV K (N - sk)), .int .i64 (cN K (N - sk)), .bool true] else .tuple #[.int .i64 0, .int .i64 0, .int .i64 0, .bool false]) = .tuple #[.int .i64 p, .int .i64 q, .int .i64 n, .bool (decide (N ≤ mst K + sk))] := by
        by_cases c : N - sk ≤ mst K
        · exact ⟨_, _, _, by rw [if_pos c, show decide (N ≤ mst K + sk) = true by simp; omega]⟩
        · exact ⟨0, 0, 0, by rw [if_neg c, show decide (N ≤ mst K + sk) = false by simp; omega]⟩
      have hN' : (lnum v : Int) = (N : Int) := by omega
      have HN := Lib.hid hN'
      have HR := Lib.hid hr
      generalize decide (N ≤ mst K + sk) = i at HR ⊢
      clear hN' hr hN hB hvs
      go_enter Try.func44, Try.ntmps44
      go_wp2_with (fail)
      go_quiet (first | (go_at_call 46; exact Calls.quiet_of_same (number_as (by omega) hv0 HN.out _)) | (go_at_call 45; exact Calls.quiet_of (parts_as (H.out.drewN _) k HK.out hK (N - sk) (by omega) (by omega) HR.out)))
      go_wp2_with (fail)
      exact bodyPost_ret (results_tmp rfl _ _ _) rfl ⟨rfl, _, rfl⟩

theorem has_as {W w : World} {L : List AObj} {F : List (Nat × Obj)} {b K l sk : Nat} (h : Hp W w L F) (k : Nat) (hk : L[k]? = some (aQco b K l sk)) (hK : K ≤ 6) {v : Int} (hv1 : -9223372036854775808 ≤ v) (hv2 : v < 9223372036854775808) (hv0 : v ≠ 0) (hsk : sk ≤ 2) (hvs : 0 < sk → v.natAbs ≠ 1) {i : Bool} (hi : decide (lnum v ≤ mst K + sk) = i) :
    Calls Try.prog 44 #[.pointer (some ⟨b, 0, none⟩), .int .i64 v] w fun e w' => e = .returned (.bool i) ∧ Hp W w' L F := by
  subst hi
  refine (has_any h k hk hK v hv1 hv2 hv0 hsk hvs).mono ?_
  rintro e w' ⟨rfl, n, rfl⟩
  exact ⟨rfl, h.drewN _⟩
theorem lnum_pos (c : Nat) : lnum ((c : Int) + 1) = 2 * c := by unfold lnum; rw [if_neg (by omega)]; omega
theorem lnum_neg (c : Nat) : lnum (-(c : Int) - 1) = 2 * c + 1 := by unfold lnum; rw [if_pos (by omega)]; omega

set_option maxHeartbeats 1000000 in
theorem qmost_any {W w : World} {L : List AObj} {F : List (Nat × Obj)} {b K l sk : Nat} (h : Hp W w L F) (k : Nat) (hk : L[k]? = some (aQco b K l sk)) (hK : K ≤ 6) (hsk : sk ≤ 2) (hl : l ≤ 16) :
    Calls Try.prog 20 #[.pointer (some ⟨b, 0, none⟩)] w fun e w' => e = .returned (.int .i64 (lmost K l sk)) ∧ Hp W w' L F := by
  obtain ⟨c0, c1, c2, f0, f1, f2⟩ := aQco_cells h k hk
  have H := Lib.hid h
  have HK := Lib.hid hk
  have HH := Lib.hid hK
  have HS := Lib.hid hsk
  have hM : 4125 ≤ mst K + sk ∧ mst K + sk ≤ 6002 := by unfold mst; have := esc_le K hK; omega
  cases l with
  | zero =>
    have e : (lmost K 0 sk : Int) = 0 := by unfold lmost; rfl
    rw [e]
    clear e h hk hM
    go_enter Try.func20, Try.ntmps20
    go_wp2_with (fail)
    exact bodyPost_ret (results_tmp rfl _ _ _) rfl ⟨rfl, H.out⟩
  | succ l =>
    obtain ⟨M, hM0⟩ : ∃ M, M = mst K + sk := ⟨_, rfl⟩
    have e : (lmost K (l + 1) sk : Int) = ((M / 2 + 1 : Nat) : Int) := by unfold lmost; rw [if_neg (by omega), hM0]
    rw [← hM0] at hM
    have HM := Lib.hid hM0
    have hl0 : (((l : Int) + 1) == 0) = false := by simp; omega
    rw [e]
    clear e h hk hM0 hK hsk
    go_enter Try.func20, Try.ntmps20
    go_wp2_with (fail)
    clear c0 c1 c2 f0 f1 f2 hl0
    go_loopw [3] (fun v' wr => ∃ c : Nat, v' = .int .i64 c ∧ 2 ≤ c ∧ c ≤ M / 2 + 1 ∧ Hp W wr L F) (fun v' _ => M / 2 + 1 - (intOf v').toNat)
    case atStart => exact ⟨2, rfl, by omega, by omega, H.out⟩
    case round =>
      obtain ⟨c, rfl, hc1, hc2, g⟩ := hrel
      by_cases hc : 2 * c ≤ M
      · have HI : Hid (decide (lnum ((c : Int) + 1) ≤ mst K + sk) = true) := Lib.hid (by rw [lnum_pos, ← HM.out]; simpa using hc)
        go_wp2_with (first | (go_at_call 44; (with_reducible refine (has_as g k HK.out HH.out (by omega) (by omega) (by omega) HS.out (fun _ => by omega) HI.out).mono ?_); rintro e w1 ⟨rfl, g1⟩; clear g))
        go_round
        case rel => exact ⟨c + 1, by go_num, by omega, by omega, g1⟩
        case measure => simp [intOf]; omega
      · have HI : Hid (decide (lnum ((c : Int) + 1) ≤ mst K + sk) = false) := Lib.hid (by rw [lnum_pos, ← HM.out]; simp; omega)
        have HJ : Hid (decide (lnum (-(c : Int) - 1) ≤ mst K + sk) = false) := Lib.hid (by rw [lnum_neg, ← HM.out]; simp; omega)
        have HC : Hid (c = M / 2 + 1) := Lib.hid (by omega)
        have hcb : c ≤ 4000 := by omega
        clear hc hc2
        go_wp2_with (first | (go_at_call 44; (with_reducible refine (has_as g k HK.out HH.out (by omega) (by omega) (by omega) HS.out (fun _ => by omega) HI.out).mono ?_); rintro e w1 ⟨rfl, g1⟩; clear g) | (go_at_call 44; (with_reducible refine (has_as g1 k HK.out HH.out (by omega) (by omega) (by omega) HS.out (fun _ => by omega) HJ.out).mono ?_); rintro e w1 ⟨rfl, g2⟩; clear g1))
        rw [← HC.out]
        exact bodyPost_ret (results_tmp rfl _ _ _) rfl ⟨rfl, g2⟩

end Go.Proofs.Ytmlkkeabgnhhnaa
