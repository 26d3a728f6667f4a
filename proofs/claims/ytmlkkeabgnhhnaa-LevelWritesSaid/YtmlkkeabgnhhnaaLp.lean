/- The program's coder: next, Most, Copy, New. -/
import Derived.Test.YtmlkkeabgnhhnaaLo
namespace Go.Proofs.Ytmlkkeabgnhhnaa
open Go.RowKit
set_option linter.unusedVariables false
set_option maxRecDepth 100000
set_option linter.unusedSimpArgs false

theorem aCo_cells {W w : World} {L : List AObj} {F : List (Nat × Obj)} {b K l sk : Nat} (h : Hp W w L F) (k : Nat) (hk : L[k]? = some (aCo b K l sk)) :
    w.cell? ⟨b, 0, none⟩ = some (.int .i64 K) ∧ w.cell? ⟨b, 1, none⟩ = some (.int .i64 l) ∧ w.cell? ⟨b, 2, none⟩ = some (.int .i64 sk) ∧ w.frozen? ⟨b, 0, none⟩ = false ∧ w.frozen? ⟨b, 1, none⟩ = false ∧ w.frozen? ⟨b, 2, none⟩ = false := by
  unfold aCo at hk
  exact cells_three (h.bk k hk)

set_option maxHeartbeats 4000000 in
theorem next_any {W w : World} {L : List AObj} {F : List (Nat × Obj)} {b K l sk : Nat} (h : Hp W w L F) (k : Nat) (hk : L[k]? = some (aCo b K (l + 1) sk)) (hK : K ≤ 6) (v : Int) (hv : v.natAbs ≤ 2 ^ 62) (hl : l ≤ 16) :
    Calls Try.prog 43 #[.pointer (some ⟨b, 0, none⟩), .int .i64 v] w fun e w' => e = .returned (.tuple #[]) ∧ Hp W w' (L.set k (aCo b (nxt K v.natAbs) l 0)) F := by
  obtain ⟨c0, c1, c2, f0, f1, f2⟩ := aCo_cells h k hk
  have h2 : Hp W ((w.setCell ⟨b, 1, none⟩ (.int .i64 l)).setCell ⟨b, 2, none⟩ (.int .i64 0)) (L.set k (aCo b K l 0)) F := by
    have := (h.bk_set k hk 1 (.int .i64 l)).bk_set k (set_at hk _) 2 (.int .i64 0)
    rw [set_set] at this
    exact this
  have hk2 := set_at hk (aCo b K l 0)
  have H2 := Lib.hid h2
  have HK := Lib.hid hk2
  obtain ⟨m, hm⟩ : ∃ m, m = v.natAbs := ⟨_, rfl⟩
  rw [← hm] at hv ⊢
  clear h h2 hk hk2
  rcases Int.lt_or_le v 0 with hs | hs
  rotate_left
  · obtain rfl : v = (m : Int) := by omega
    clear hm
    have t1 : ¬ ((m : Int) < -(m : Int)) := by omega
    go_enter Try.func43, Try.ntmps43
    go_wp2_with (first | (go_at_call 55; (with_reducible refine (after_any H2.out k HK.out hK m (by omega)).mono ?_); rintro e w1 ⟨rfl, h3⟩; rw [set_set] at h3))
    exact bodyPost_end (results_none rfl _ _ _) rfl ⟨rfl, h3⟩
  · obtain rfl : v = -(m : Int) := by omega
    clear hm
    go_enter Try.func43, Try.ntmps43
    go_wp2_with (first | (go_at_call 55; (with_reducible refine (after_any H2.out k HK.out hK m (by omega)).mono ?_); rintro e w1 ⟨rfl, h3⟩; rw [set_set] at h3))
    exact bodyPost_end (results_none rfl _ _ _) rfl ⟨rfl, h3⟩

theorem most_any {W w : World} {L : List AObj} {F : List (Nat × Obj)} {b K l sk : Nat} (h : Hp W w L F) (k : Nat) (hk : L[k]? = some (aCo b K l sk)) (hK : K ≤ 6) (hsk : sk ≤ 2) :
    Calls Try.prog 19 #[.pointer (some ⟨b, 0, none⟩)] w fun e w' => e = .returned (.int .i64 (lmost K l sk)) ∧ Hp W w' L F := by
  obtain ⟨c0, c1, c2, f0, f1, f2⟩ := aCo_cells h k hk
  have H := Lib.hid h
  clear h hk
  by_cases hl : l = 0
  · subst hl
    go_enter Try.func19, Try.ntmps19
    go_wp2_with (fail)
    exact bodyPost_ret (results_tmp rfl _ _ _) rfl ⟨rfl, H.out⟩
  · have hl' : ((l : Int) == 0) = false := by simp; omega
    have hb : mst K ≤ 6000 := by unfold mst; have := esc_le K hK; omega
    have e1 : (lmost K l sk : Int) = ((mst K : Int) + (sk : Int)) / 2 + 1 := by unfold lmost; rw [if_neg hl]; omega
    rw [e1]
    clear e1
    have Hl := Lib.hid hl
    clear hl
    go_enter Try.func19, Try.ntmps19
    go_wp2_with (fail)
    go_quiet (first | (go_at_call 40; exact Calls.quiet_of_same ((lmost_any hK _).mono fun _ _ h => ⟨h.1, h.2.symm⟩)))
    go_wp2_with (fail)
    refine bodyPost_ret (results_tmp rfl _ _ _) rfl ⟨rfl, H.out.drewN _⟩

theorem lcopy_any {W w : World} {L : List AObj} {F : List (Nat × Obj)} {b K l sk : Nat} (h : Hp W w L F) (k : Nat) (hk : L[k]? = some (aCo b K l sk)) :
    Calls Try.prog 27 #[.pointer (some ⟨b, 0, none⟩)] w (Makes W L F fun c => aCo c K l sk) := by
  obtain ⟨c0, c1, c2, f0, f1, f2⟩ := aCo_cells h k hk
  have H := Lib.hid h
  clear h hk
  go_enter Try.func27, Try.ntmps27
  go_wp2_with (fail)
  exact bodyPost_ret (results_tmp rfl _ _ _) rfl ⟨_, rfl, H.out.bk_new _ _⟩

end Go.Proofs.Ytmlkkeabgnhhnaa
