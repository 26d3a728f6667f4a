/- The reference's after. -/
import Derived.Test.YtmlkkeabgnhhnaaLj
namespace Go.Proofs.Ytmlkkeabgnhhnaa
open Go.RowKit
set_option linter.unusedVariables false
set_option maxRecDepth 100000
set_option linter.unusedSimpArgs false

section
variable {W w : World} {L : List AObj} {F : List (Nat × Obj)} {b K l l0 sk m : Nat} {X : Int} {v : Value}
theorem qa_zero (h : Hp W w L F) (k : Nat) (hk : L[k]? = some (aQco b K l0 sk)) (hX : nxt K m = K) :
    Hp W ((w.setCell ⟨b, 0, none⟩ (.int .i64 l)).setCell ⟨b, 2, none⟩ (.int .i64 0)) (L.set k (aQco b (nxt K m) l 0)) F := by
  rw [hX]
  unfold aQco at hk ⊢
  have := (h.bk_set k hk 0 (.int .i64 l)).bk_set k (set_at hk _) 2 (.int .i64 0)
  rw [set_set] at this
  exact this
theorem qa_one (h : Hp W w L F) (k : Nat) (hk : L[k]? = some (aQco b K l0 sk)) (hX : ((nxt K m : Nat) : Int) = X) :
    Hp W (((w.setCell ⟨b, 0, none⟩ (.int .i64 l)).setCell ⟨b, 2, none⟩ (.int .i64 0)).setCell ⟨b, 1, none⟩ (.int .i64 X)) (L.set k (aQco b (nxt K m) l 0)) F := by
  subst hX
  unfold aQco at hk ⊢
  have h2 := (h.bk_set k hk 0 (.int .i64 l)).bk_set k (set_at hk _) 2 (.int .i64 0)
  have := h2.bk_set k (by rw [set_set]; exact set_at hk _) 1 (.int .i64 (nxt K m))
  rw [set_set, set_set] at this
  exact this
theorem qa_two (h : Hp W w L F) (k : Nat) (hk : L[k]? = some (aQco b K l0 sk)) (hX : ((nxt K m : Nat) : Int) = X) :
    Hp W ((((w.setCell ⟨b, 0, none⟩ (.int .i64 l)).setCell ⟨b, 2, none⟩ (.int .i64 0)).setCell ⟨b, 1, none⟩ v).setCell ⟨b, 1, none⟩ (.int .i64 X)) (L.set k (aQco b (nxt K m) l 0)) F := by
  subst hX
  unfold aQco at hk ⊢
  have h2 := (h.bk_set k hk 0 (.int .i64 l)).bk_set k (set_at hk _) 2 (.int .i64 0)
  have h3 := h2.bk_set k (by rw [set_set]; exact set_at hk _) 1 v
  have := h3.bk_set k (by rw [set_set, set_set]; exact set_at hk _) 1 (.int .i64 (nxt K m))
  rw [set_set, set_set, set_set] at this
  exact this
end

theorem nx_0b {m : Nat} (h : 3 < m) : nxt 0 m = 2 := if_pos ⟨h, by decide⟩
theorem nx_0s {m : Nat} (h : ¬ 3 < m) : nxt 0 m = 1 := if_neg (fun x => h x.1)
theorem nx_1b {m : Nat} (h : 3 < m) : nxt 1 m = 2 := if_pos ⟨h, by decide⟩
theorem nx_1s {m : Nat} (h : ¬ 3 < m) : nxt 1 m = 1 := if_neg (fun x => h x.1)
theorem nx_2b {m : Nat} (h : 6 < m) : nxt 2 m = 3 := if_pos ⟨h, by decide⟩
theorem nx_2s {m : Nat} (h : ¬ 6 < m) : nxt 2 m = 2 := if_neg (fun x => h x.1)
theorem nx_3b {m : Nat} (h : 12 < m) : nxt 3 m = 4 := if_pos ⟨h, by decide⟩
theorem nx_3s {m : Nat} (h : ¬ 12 < m) : nxt 3 m = 3 := if_neg (fun x => h x.1)
theorem nx_4b {m : Nat} (h : 24 < m) : nxt 4 m = 5 := if_pos ⟨h, by decide⟩
theorem nx_4s {m : Nat} (h : ¬ 24 < m) : nxt 4 m = 4 := if_neg (fun x => h x.1)
theorem nx_5b {m : Nat} (h : 48 < m) : nxt 5 m = 6 := if_pos ⟨h, by decide⟩
theorem nx_5s {m : Nat} (h : ¬ 48 < m) : nxt 5 m = 5 := if_neg (fun x => h x.1)
theorem nx_6 (m : Nat) : nxt 6 m = 6 := if_neg (by simp)

set_option maxHeartbeats 8000000 in
theorem qafter_any {W w : World} {L : List AObj} {F : List (Nat × Obj)} {b K l sk : Nat} (h : Hp W w L F) (k : Nat) (hk : L[k]? = some (aQco b K (l + 1) sk)) (hK : K ≤ 6) (v : Int) (hv : v.natAbs ≤ 2 ^ 62) (hl : l ≤ 16) :
    Calls Try.prog 48 #[.pointer (some ⟨b, 0, none⟩), .int .i64 v] w fun e w' => e = .returned (.tuple #[]) ∧ Hp W w' (L.set k (aQco b (nxt K v.natAbs) l 0)) F := by
  obtain ⟨c0, c1, c2, f0, f1, f2⟩ := aQco_cells h k hk
  have H := Lib.hid h
  have HK := Lib.hid hk
  clear h hk
  obtain ⟨m, hm⟩ : ∃ m, m = v.natAbs := ⟨_, rfl⟩
  rw [← hm] at hv ⊢
  have hs : v = (m : Int) ∨ (v = -(m : Int) ∧ 0 < m) := by omega
  clear hm
  have : K = 0 ∨ K = 1 ∨ K = 2 ∨ K = 3 ∨ K = 4 ∨ K = 5 ∨ K = 6 := by omega
  clear hK
  rcases hs with rfl | ⟨rfl, hm0⟩
  · have t1 : ¬ ((m : Int) < -(m : Int)) := by omega
    rcases this with rfl | rfl | rfl | rfl | rfl | rfl | rfl
    · by_cases hq : 3 < m
      · have t2 : ((3 : Int) < (m : Int)) := by omega
        go_enter Try.func48, Try.ntmps48
        go_wp2_with (fail)
        refine bodyPost_end (results_none rfl _ _ _) rfl ⟨rfl, ?_⟩
        exact qa_two H.out k HK.out (by rw [(nx_0b (by omega))]; rfl)
      · have t2 : ¬ ((3 : Int) < (m : Int)) := by omega
        go_enter Try.func48, Try.ntmps48
        go_wp2_with (fail)
        refine bodyPost_end (results_none rfl _ _ _) rfl ⟨rfl, ?_⟩
        exact qa_one H.out k HK.out (by rw [(nx_0s (by omega))]; rfl)
    · by_cases hq : 3 < m
      · have t2 : ((3 : Int) < (m : Int)) := by omega
        go_enter Try.func48, Try.ntmps48
        go_wp2_with (fail)
        refine bodyPost_end (results_none rfl _ _ _) rfl ⟨rfl, ?_⟩
        exact qa_one H.out k HK.out (by rw [(nx_1b (by omega))]; rfl)
      · have t2 : ¬ ((3 : Int) < (m : Int)) := by omega
        go_enter Try.func48, Try.ntmps48
        go_wp2_with (fail)
        refine bodyPost_end (results_none rfl _ _ _) rfl ⟨rfl, ?_⟩
        exact qa_zero H.out k HK.out (nx_1s (by omega))
    · by_cases hq : 6 < m
      · have t2 : ((6 : Int) < (m : Int)) := by omega
        go_enter Try.func48, Try.ntmps48
        go_wp2_with (fail)
        refine bodyPost_end (results_none rfl _ _ _) rfl ⟨rfl, ?_⟩
        exact qa_one H.out k HK.out (by rw [(nx_2b (by omega))]; rfl)
      · have t2 : ¬ ((6 : Int) < (m : Int)) := by omega
        go_enter Try.func48, Try.ntmps48
        go_wp2_with (fail)
        refine bodyPost_end (results_none rfl _ _ _) rfl ⟨rfl, ?_⟩
        exact qa_zero H.out k HK.out (nx_2s (by omega))
    · by_cases hq : 12 < m
      · have t2 : ((12 : Int) < (m : Int)) := by omega
        go_enter Try.func48, Try.ntmps48
        go_wp2_with (fail)
        refine bodyPost_end (results_none rfl _ _ _) rfl ⟨rfl, ?_⟩
        exact qa_one H.out k HK.out (by rw [(nx_3b (by omega))]; rfl)
      · have t2 : ¬ ((12 : Int) < (m : Int)) := by omega
        go_enter Try.func48, Try.ntmps48
        go_wp2_with (fail)
        refine bodyPost_end (results_none rfl _ _ _) rfl ⟨rfl, ?_⟩
        exact qa_zero H.out k HK.out (nx_3s (by omega))
    · by_cases hq : 24 < m
      · have t2 : ((24 : Int) < (m : Int)) := by omega
        go_enter Try.func48, Try.ntmps48
        go_wp2_with (fail)
        refine bodyPost_end (results_none rfl _ _ _) rfl ⟨rfl, ?_⟩
        exact qa_one H.out k HK.out (by rw [(nx_4b (by omega))]; rfl)
      · have t2 : ¬ ((24 : Int) < (m : Int)) := by omega
        go_enter Try.func48, Try.ntmps48
        go_wp2_with (fail)
        refine bodyPost_end (results_none rfl _ _ _) rfl ⟨rfl, ?_⟩
        exact qa_zero H.out k HK.out (nx_4s (by omega))
    · by_cases hq : 48 < m
      · have t2 : ((48 : Int) < (m : Int)) := by omega
        go_enter Try.func48, Try.ntmps48
        go_wp2_with (fail)
        refine bodyPost_end (results_none rfl _ _ _) rfl ⟨rfl, ?_⟩
        exact qa_one H.out k HK.out (by rw [(nx_5b (by omega))]; rfl)
      · have t2 : ¬ ((48 : Int) < (m : Int)) := by omega
        go_enter Try.func48, Try.ntmps48
        go_wp2_with (fail)
        refine bodyPost_end (results_none rfl _ _ _) rfl ⟨rfl, ?_⟩
        exact qa_zero H.out k HK.out (nx_5s (by omega))
    · by_cases hq : 96 < m
      · have t2 : ((96 : Int) < (m : Int)) := by omega
        go_enter Try.func48, Try.ntmps48
        go_wp2_with (fail)
        refine bodyPost_end (results_none rfl _ _ _) rfl ⟨rfl, ?_⟩
        exact qa_zero H.out k HK.out (nx_6 m)
      · have t2 : ¬ ((96 : Int) < (m : Int)) := by omega
        go_enter Try.func48, Try.ntmps48
        go_wp2_with (fail)
        refine bodyPost_end (results_none rfl _ _ _) rfl ⟨rfl, ?_⟩
        exact qa_zero H.out k HK.out (nx_6 m)
  · have t1 : -(m : Int) < (m : Int) := by omega
    rcases this with rfl | rfl | rfl | rfl | rfl | rfl | rfl
    · by_cases hq : 3 < m
      · have t2 : ((3 : Int) < (m : Int)) := by omega
        go_enter Try.func48, Try.ntmps48
        go_wp2_with (fail)
        refine bodyPost_end (results_none rfl _ _ _) rfl ⟨rfl, ?_⟩
        exact qa_two H.out k HK.out (by rw [(nx_0b (by omega))]; rfl)
      · have t2 : ¬ ((3 : Int) < (m : Int)) := by omega
        go_enter Try.func48, Try.ntmps48
        go_wp2_with (fail)
        refine bodyPost_end (results_none rfl _ _ _) rfl ⟨rfl, ?_⟩
        exact qa_one H.out k HK.out (by rw [(nx_0s (by omega))]; rfl)
    · by_cases hq : 3 < m
      · have t2 : ((3 : Int) < (m : Int)) := by omega
        go_enter Try.func48, Try.ntmps48
        go_wp2_with (fail)
        refine bodyPost_end (results_none rfl _ _ _) rfl ⟨rfl, ?_⟩
        exact qa_one H.out k HK.out (by rw [(nx_1b (by omega))]; rfl)
      · have t2 : ¬ ((3 : Int) < (m : Int)) := by omega
        go_enter Try.func48, Try.ntmps48
        go_wp2_with (fail)
        refine bodyPost_end (results_none rfl _ _ _) rfl ⟨rfl, ?_⟩
        exact qa_zero H.out k HK.out (nx_1s (by omega))
    · by_cases hq : 6 < m
      · have t2 : ((6 : Int) < (m : Int)) := by omega
        go_enter Try.func48, Try.ntmps48
        go_wp2_with (fail)
        refine bodyPost_end (results_none rfl _ _ _) rfl ⟨rfl, ?_⟩
        exact qa_one H.out k HK.out (by rw [(nx_2b (by omega))]; rfl)
      · have t2 : ¬ ((6 : Int) < (m : Int)) := by omega
        go_enter Try.func48, Try.ntmps48
        go_wp2_with (fail)
        refine bodyPost_end (results_none rfl _ _ _) rfl ⟨rfl, ?_⟩
        exact qa_zero H.out k HK.out (nx_2s (by omega))
    · by_cases hq : 12 < m
      · have t2 : ((12 : Int) < (m : Int)) := by omega
        go_enter Try.func48, Try.ntmps48
        go_wp2_with (fail)
        refine bodyPost_end (results_none rfl _ _ _) rfl ⟨rfl, ?_⟩
        exact qa_one H.out k HK.out (by rw [(nx_3b (by omega))]; rfl)
      · have t2 : ¬ ((12 : Int) < (m : Int)) := by omega
        go_enter Try.func48, Try.ntmps48
        go_wp2_with (fail)
        refine bodyPost_end (results_none rfl _ _ _) rfl ⟨rfl, ?_⟩
        exact qa_zero H.out k HK.out (nx_3s (by omega))
    · by_cases hq : 24 < m
      · have t2 : ((24 : Int) < (m : Int)) := by omega
        go_enter Try.func48, Try.ntmps48
        go_wp2_with (fail)
        refine bodyPost_end (results_none rfl _ _ _) rfl ⟨rfl, ?_⟩
        exact qa_one H.out k HK.out (by rw [(nx_4b (by omega))]; rfl)
      · have t2 : ¬ ((24 : Int) < (m : Int)) := by omega
        go_enter Try.func48, Try.ntmps48
        go_wp2_with (fail)
        refine bodyPost_end (results_none rfl _ _ _) rfl ⟨rfl, ?_⟩
        exact qa_zero H.out k HK.out (nx_4s (by omega))
    · by_cases hq : 48 < m
      · have t2 : ((48 : Int) < (m : Int)) := by omega
        go_enter Try.func48, Try.ntmps48
        go_wp2_with (fail)
        refine bodyPost_end (results_none rfl _ _ _) rfl ⟨rfl, ?_⟩
        exact qa_one H.out k HK.out (by rw [(nx_5b (by omega))]; rfl)
      · have t2 : ¬ ((48 : Int) < (m : Int)) := by omega
        go_enter Try.func48, Try.ntmps48
        go_wp2_with (fail)
        refine bodyPost_end (results_none rfl _ _ _) rfl ⟨rfl, ?_⟩
        exact qa_zero H.out k HK.out (nx_5s (by omega))
    · by_cases hq : 96 < m
      · have t2 : ((96 : Int) < (m : Int)) := by omega
        go_enter Try.func48, Try.ntmps48
        go_wp2_with (fail)
        refine bodyPost_end (results_none rfl _ _ _) rfl ⟨rfl, ?_⟩
        exact qa_zero H.out k HK.out (nx_6 m)
      · have t2 : ¬ ((96 : Int) < (m : Int)) := by omega
        go_enter Try.func48, Try.ntmps48
        go_wp2_with (fail)
        refine bodyPost_end (results_none rfl _ _ _) rfl ⟨rfl, ?_⟩
        exact qa_zero H.out k HK.out (nx_6 m)

end Go.Proofs.Ytmlkkeabgnhhnaa
