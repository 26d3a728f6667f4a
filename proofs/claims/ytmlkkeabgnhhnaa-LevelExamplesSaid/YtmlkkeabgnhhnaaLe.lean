/- zeros, and coders that are nil: for LevelExamples. -/
import Derived.Test.YtmlkkeabgnhhnaaLq
namespace Go.Proofs.Ytmlkkeabgnhhnaa
open Go.RowKit
set_option linter.unusedVariables false
set_option maxRecDepth 100000
set_option linter.unusedSimpArgs false

/-- n characters 0. -/
def zs (n : Nat) : ByteArray := ⟨(List.replicate n (48 : UInt8)).toArray⟩
theorem zs_size (n : Nat) : (zs n).size = n := by show (List.replicate n (48 : UInt8)).toArray.size = n; simp
theorem zs_succ (n : Nat) : zs n ++ ⟨#[48]⟩ = zs (n + 1) := by
  apply ByteArray.ext
  have e : (zs n ++ ⟨#[48]⟩).data = (zs n).data ++ #[48] := by simp
  rw [e]
  show (List.replicate n (48 : UInt8)).toArray ++ #[48] = (List.replicate (n + 1) (48 : UInt8)).toArray
  rw [List.replicate_succ']
  apply Array.ext'
  simp
theorem zeros_any (n : Nat) (hn : n ≤ 1000) (w : World) : Calls Try.prog 38 #[.int .i64 n] w fun e w' => e = .returned (.string (zs n)) ∧ w = w' := by
  go_enter Try.func38, Try.ntmps38
  go_wp2_with (fail)
  go_loopw [3, 4] (fun s' i' wr => ∃ c : Nat, s' = .string (zs c) ∧ i' = .int .i64 c ∧ c ≤ n ∧ w = wr) (fun _ i' _ => n - (intOf i').toNat)
  case atStart => exact ⟨0, rfl, rfl, Nat.zero_le _, rfl⟩
  case round =>
    obtain ⟨c, rfl, rfl, hc, rfl⟩ := hrel
    have hz := zs_size c
    have hs := Lib.hid (zs_succ c)
    by_cases hlt : c < n
    · go_wp2_with (fail)
      go_roundw
      case rel => exact ⟨c + 1, by rw [← hs.out], by go_num, by omega, by first | rfl | trivial⟩
      case measure => simp [intOf]; omega
    · obtain rfl : c = n := by omega
      go_wp2_with (fail)
      refine bodyPost_ret (results_tmp rfl _ _ _) rfl ⟨rfl, ?_⟩
      first | rfl | trivial
theorem zeros_as (n : Nat) {x : Int} (hx : x = (n : Int)) (hn : n ≤ 1000) (w : World) : Calls Try.prog 38 #[.int .i64 x] w fun e w' => e = .returned (.string (zs n)) ∧ w = w' := by
  subst hx
  exact zeros_any n hn w
theorem lput_nil (x v : Value) (w : World) : Calls Try.prog 15 #[.pointer none, x, v] w fun e w' => e = .returned (.int .i64 1) ∧ w = w' := by
  go_enter Try.func15, Try.ntmps15
  go_wp2_with (fail)
  exact bodyPost_ret (results_tmp rfl _ _ _) rfl ⟨rfl, rfl⟩
theorem most_nil (w : World) : Calls Try.prog 19 #[.pointer none] w fun e w' => e = .returned (.int .i64 0) ∧ w = w' := by
  go_enter Try.func19, Try.ntmps19
  go_wp2_with (fail)
  exact bodyPost_ret (results_tmp rfl _ _ _) rfl ⟨rfl, rfl⟩
theorem lcopy_nil (w : World) : Calls Try.prog 27 #[.pointer none] w fun e w' => e = .returned (.pointer none) ∧ w = w' := by
  go_enter Try.func27, Try.ntmps27
  go_wp2_with (fail)
  exact bodyPost_ret (results_tmp rfl _ _ _) rfl ⟨rfl, rfl⟩
theorem lread_nil {W w : World} {L : List AObj} {F : List (Nat × Obj)} (h : Hp W w L F) (p : Option Addr) (q : Option Addr) (hpq : p = none ∨ q = none) :
    Calls Try.prog 30 #[.pointer p, .pointer q] w fun e w' => e = .returned (.tuple #[.int .i64 0, .int .i64 1]) ∧ Hp W w' L F := by
  have H := Lib.hid h
  clear h
  rcases hpq with rfl | rfl
  · go_enter Try.func30, Try.ntmps30
    go_wp2_with (fail)
    exact bodyPost_ret (results_tmp2 rfl _ _ _) rfl ⟨rfl, H.out.lost _⟩
  · cases p
    all_goals
      go_enter Try.func30, Try.ntmps30
      go_wp2_with (fail)
      exact bodyPost_ret (results_tmp2 rfl _ _ _) rfl ⟨rfl, H.out.lost _⟩

end Go.Proofs.Ytmlkkeabgnhhnaa
