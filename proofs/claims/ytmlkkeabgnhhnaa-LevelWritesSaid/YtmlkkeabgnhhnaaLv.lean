/- The reference's coder: New, number, after. -/
import Derived.Test.YtmlkkeabgnhhnaaLt
namespace Go.Proofs.Ytmlkkeabgnhhnaa
open Go.RowKit
set_option linter.unusedVariables false
set_option maxRecDepth 100000
set_option linter.unusedSimpArgs false

theorem aQco_cells {W w : World} {L : List AObj} {F : List (Nat × Obj)} {b K l sk : Nat} (h : Hp W w L F) (k : Nat) (hk : L[k]? = some (aQco b K l sk)) :
    w.cell? ⟨b, 0, none⟩ = some (.int .i64 l) ∧ w.cell? ⟨b, 1, none⟩ = some (.int .i64 K) ∧ w.cell? ⟨b, 2, none⟩ = some (.int .i64 sk) ∧ w.frozen? ⟨b, 0, none⟩ = false ∧ w.frozen? ⟨b, 1, none⟩ = false ∧ w.frozen? ⟨b, 2, none⟩ = false := by
  unfold aQco at hk
  exact cells_three (h.bk k hk)

theorem symbol_as {W w : World} {L : List AObj} {F : List (Nat × Obj)} (h : Hp W w L F) (t o : Int) {e0 : Int} (he : (if okP t o then (0 : Int) else 3) = e0) :
    Calls Try.prog 39 #[.int .i64 t, .int .i64 o] w fun e w' => ∃ x : Int, e = .returned (.tuple #[.int .i64 x, .int .i64 e0]) ∧ Hp W w' L F := by
  subst he
  exact symbol_any h t o

theorem qnew_ok {W w : World} {L : List AObj} {F : List (Nat × Obj)} (h : Hp W w L F) (t o : Nat) (ht : t ≤ 16) (ho : o ≤ 3) (hto : o ≤ t) :
    Calls Try.prog 12 #[.int .i64 t, .int .i64 o] w fun e w' => ∃ b, e = .returned (.tuple #[.pointer (some ⟨b, 0, none⟩), .int .i64 0]) ∧ Hp W w' (aQco b (k0 t o) (t - o) (s0 o) :: L) F := by
  have H := Lib.hid h
  have E0 : Hid ((if okP (t : Int) (o : Int) then (0 : Int) else 3) = 0) := Lib.hid (if_pos (by unfold okP; omega))
  unfold k0 s0
  clear h
  by_cases ho3 : o < 3
  · by_cases ht10 : 10 < t
    · rw [if_pos ⟨ht10, ho3⟩, if_pos ho3]
      go_enter Try.func12, Try.ntmps12
      go_wp2_with (first | (go_at_call 39; (with_reducible refine (symbol_as H.out t o E0.out).mono ?_); rintro e w1 ⟨x, rfl, h1⟩))
      all_goals
        refine bodyPost_ret (results_tmp2 rfl _ _ _) rfl ⟨_, rfl, ?_⟩
        unfold aQco
        rw [show ((t - o : Nat) : Int) = (t : Int) - (o : Int) by omega]
        exact h1.bk_new _ _
    · rw [if_neg (fun h => ht10 h.1), if_pos ho3]
      go_enter Try.func12, Try.ntmps12
      go_wp2_with (first | (go_at_call 39; (with_reducible refine (symbol_as H.out t o E0.out).mono ?_); rintro e w1 ⟨x, rfl, h1⟩))
      all_goals
        refine bodyPost_ret (results_tmp2 rfl _ _ _) rfl ⟨_, rfl, ?_⟩
        unfold aQco
        rw [show ((t - o : Nat) : Int) = (t : Int) - (o : Int) by omega]
        exact h1.bk_new _ _
  · rw [if_neg (fun h => ho3 h.2), if_neg ho3]
    go_enter Try.func12, Try.ntmps12
    go_wp2_with (first | (go_at_call 39; (with_reducible refine (symbol_as H.out t o E0.out).mono ?_); rintro e w1 ⟨x, rfl, h1⟩))
    all_goals
      refine bodyPost_ret (results_tmp2 rfl _ _ _) rfl ⟨_, rfl, ?_⟩
      unfold aQco
      rw [show ((t - o : Nat) : Int) = (t : Int) - (o : Int) by omega]
      exact h1.bk_new _ _

theorem qnew_bad {W w : World} {L : List AObj} {F : List (Nat × Obj)} (h : Hp W w L F) (t o : Int) (hb : ¬ okP t o) :
    Calls Try.prog 12 #[.int .i64 t, .int .i64 o] w fun e w' => e = .returned (.tuple #[.pointer none, .int .i64 3]) ∧ Hp W w' L F := by
  have H := Lib.hid h
  have E0 : Hid ((if okP t o then (0 : Int) else 3) = 3) := Lib.hid (if_neg hb)
  clear h hb
  go_enter Try.func12, Try.ntmps12
  go_wp2_with (first | (go_at_call 39; (with_reducible refine (symbol_as H.out t o E0.out).mono ?_); rintro e w1 ⟨x, rfl, h1⟩))
  exact bodyPost_ret (results_tmp2 rfl _ _ _) rfl ⟨rfl, h1⟩

theorem number_any (v : Int) (hv : v.natAbs ≤ 2 ^ 40) (hv0 : v ≠ 0) (w : World) : Calls Try.prog 46 #[.int .i64 v] w fun e w' => e = .returned (.int .i64 (lnum v)) ∧ w = w' := by
  by_cases hs : v < 0
  · have e : (lnum v : Int) = 2 * (-v - 1) + 1 := by unfold lnum; rw [if_pos hs]; omega
    rw [e]
    clear e
    go_enter Try.func46, Try.ntmps46
    go_wp2_with (fail)
    exact bodyPost_ret (results_tmp rfl _ _ _) rfl ⟨rfl, rfl⟩
  · have e : (lnum v : Int) = 2 * (v - 1) := by unfold lnum; rw [if_neg hs]; omega
    rw [e]
    clear e
    go_enter Try.func46, Try.ntmps46
    go_wp2_with (fail)
    exact bodyPost_ret (results_tmp rfl _ _ _) rfl ⟨rfl, rfl⟩

end Go.Proofs.Ytmlkkeabgnhhnaa
