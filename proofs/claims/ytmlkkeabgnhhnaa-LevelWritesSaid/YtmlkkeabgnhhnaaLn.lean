/- The program's New and Put. -/
import Derived.Test.YtmlkkeabgnhhnaaLp
namespace Go.Proofs.Ytmlkkeabgnhhnaa
open Go.RowKit
set_option linter.unusedVariables false
set_option maxRecDepth 100000
set_option linter.unusedSimpArgs false

def k0 (t o : Nat) : Nat := if 10 < t ∧ o < 3 then 1 else 0
def s0 (o : Nat) : Nat := if o < 3 then 2 else 0
theorem new_ok {W w : World} {L : List AObj} {F : List (Nat × Obj)} (h : Hp W w L F) (t o : Nat) (ht : t ≤ 16) (ho : o ≤ 3) (hto : o ≤ t) :
    Calls Try.prog 11 #[.int .i64 t, .int .i64 o] w fun e w' => ∃ b, e = .returned (.tuple #[.pointer (some ⟨b, 0, none⟩), .int .i64 0]) ∧ Hp W w' (aCo b (k0 t o) (t - o) (s0 o) :: L) F := by
  have H := Lib.hid h
  unfold k0 s0
  clear h
  by_cases ho3 : o < 3
  · by_cases ht10 : 10 < t
    · rw [if_pos ⟨ht10, ho3⟩, if_pos ho3]
      go_enter Try.func11, Try.ntmps11
      go_wp2_with (fail)
      all_goals
        refine bodyPost_ret (results_tmp2 rfl _ _ _) rfl ⟨_, rfl, ?_⟩
        unfold aCo
        rw [show ((t - o : Nat) : Int) = (t : Int) - (o : Int) by omega]
        exact H.out.bk_new _ _
    · rw [if_neg (fun h => ht10 h.1), if_pos ho3]
      go_enter Try.func11, Try.ntmps11
      go_wp2_with (fail)
      all_goals
        refine bodyPost_ret (results_tmp2 rfl _ _ _) rfl ⟨_, rfl, ?_⟩
        unfold aCo
        rw [show ((t - o : Nat) : Int) = (t : Int) - (o : Int) by omega]
        exact H.out.bk_new _ _
  · rw [if_neg (fun h => ho3 h.2), if_neg ho3]
    go_enter Try.func11, Try.ntmps11
    go_wp2_with (fail)
    all_goals
      refine bodyPost_ret (results_tmp2 rfl _ _ _) rfl ⟨_, rfl, ?_⟩
      unfold aCo
      rw [show ((t - o : Nat) : Int) = (t : Int) - (o : Int) by omega]
      exact H.out.bk_new _ _

theorem new_bad (t o : Int) (h : t < 0 ∨ 16 < t ∨ o < 0 ∨ 3 < o ∨ t < o) (w : World) :
    Calls Try.prog 11 #[.int .i64 t, .int .i64 o] w fun e w' => e = .returned (.tuple #[.pointer none, .int .i64 3]) ∧ w = w' := by
  by_cases c1 : t < 0
  · go_enter Try.func11, Try.ntmps11
    go_wp2_with (fail)
    all_goals first | exact bodyPost_ret (results_tmp2 rfl _ _ _) rfl ⟨rfl, rfl⟩ | omega
  · by_cases c2 : 16 < t
    · have d1 : ¬ t < 0 := c1
      go_enter Try.func11, Try.ntmps11
      go_wp2_with (fail)
      all_goals first | exact bodyPost_ret (results_tmp2 rfl _ _ _) rfl ⟨rfl, rfl⟩ | omega
    · by_cases c3 : o < 0
      · go_enter Try.func11, Try.ntmps11
        go_wp2_with (fail)
        all_goals first | exact bodyPost_ret (results_tmp2 rfl _ _ _) rfl ⟨rfl, rfl⟩ | omega
      · have c4 : 3 < o ∨ t < o := by omega
        by_cases c5 : t < 3
        · have c6 : t < o := by omega
          clear c4 h
          go_enter Try.func11, Try.ntmps11
          go_wp2_with (fail)
          all_goals first | exact bodyPost_ret (results_tmp2 rfl _ _ _) rfl ⟨rfl, rfl⟩ | omega
        · have c6 : 3 < o := by omega
          clear c4 h
          go_enter Try.func11, Try.ntmps11
          go_wp2_with (fail)
          all_goals first | exact bodyPost_ret (results_tmp2 rfl _ _ _) rfl ⟨rfl, rfl⟩ | omega

end Go.Proofs.Ytmlkkeabgnhhnaa
