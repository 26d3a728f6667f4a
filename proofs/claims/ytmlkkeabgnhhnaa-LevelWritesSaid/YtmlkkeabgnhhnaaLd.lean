/- The walk of LevelReads. -/
import Derived.Test.YtmlkkeabgnhhnaaLg
import Derived.Test.YtmlkkeabgnhhnaaLw
namespace Go.Proofs.Ytmlkkeabgnhhnaa
open Go.RowKit
set_option linter.unusedVariables false
set_option maxRecDepth 100000
set_option linter.unusedSimpArgs false

theorem lr_bounds {K l sk i : Nat} {s : ByteArray} (hb : K ≤ 6 ∧ l ≤ 16 ∧ sk ≤ 2) : lrK K l sk s i ≤ 6 ∧ lrL K l s i ≤ 16 ∧ lrS K l sk s i ≤ 2 := by
  refine ⟨?_, ?_, ?_⟩
  · unfold lrK; split
    · exact nxt_le _ _ hb.1
    · exact hb.1
  · unfold lrL; split <;> omega
  · unfold lrS; split <;> omega
theorem qmost_as {W w : World} {L : List AObj} {F : List (Nat × Obj)} {b K l sk : Nat} (h : Hp W w L F) (k : Nat) (hk : L[k]? = some (aQco b K l sk)) (hb : K ≤ 6 ∧ l ≤ 16 ∧ sk ≤ 2) {q : Nat} (hq : lmost K l sk = q) :
    Calls Try.prog 20 #[.pointer (some ⟨b, 0, none⟩)] w fun e w' => e = .returned (.int .i64 q) ∧ Hp W w' L F := by
  subst hq
  exact qmost_any h k hk hb.1 hb.2.2 hb.2.1
theorem most_as2 {W w : World} {L : List AObj} {F : List (Nat × Obj)} {b K l sk : Nat} (h : Hp W w L F) (k : Nat) (hk : L[k]? = some (aCo b K l sk)) (hb : K ≤ 6 ∧ l ≤ 16 ∧ sk ≤ 2) {q : Nat} (hq : lmost K l sk = q) :
    Calls Try.prog 19 #[.pointer (some ⟨b, 0, none⟩)] w fun e w' => e = .returned (.int .i64 q) ∧ Hp W w' L F := by
  subst hq
  exact most_any h k hk hb.1 hb.2.2
theorem qpos_eq {W w : World} {L : List AObj} {F : List (Nat × Obj)} {b : Nat} (h : Hp W w L F) (k : Nat) {s : ByteArray} {i : Nat} (hk : L[k]? = some (aQrd b s i)) {z : Int} (hz : (i : Int) = z) :
    Calls Try.prog 33 #[.pointer (some ⟨b, 0, none⟩)] w fun e w' => e = .returned (.int .i64 z) ∧ Hp W w' L F := by subst hz; exact (qpos_any h k hk).mono fun _ _ ⟨he, hw⟩ => ⟨he, hw ▸ h⟩
theorem not_okP {t o : Int} (h : ¬ okP t o) : t < 0 ∨ 16 < t ∨ o < 0 ∨ 3 < o ∨ t < o := by
  unfold okP at h; omega
theorem k0_le (t o : Nat) : k0 t o ≤ 6 := by unfold k0; split <;> omega
theorem s0_le (o : Nat) : s0 o ≤ 2 := by unfold s0; split <;> omega

set_option maxHeartbeats 4000000 in
theorem lreads_walk {W : World} (t0 o0 : Int) (b1 : -9223372036854775808 ≤ t0) (b2 : t0 < 9223372036854775808) (b3 : -9223372036854775808 ≤ o0) (b4 : o0 < 9223372036854775808) (T : ByteArray) :
    Calls Try.prog 6 #[.int .i64 t0, .int .i64 o0, .string T] W fun e w' => e = .returned (.bool true) ∧ Below W.heap.size W w' := by
  have hS := Hp.start W
  by_cases ht : T.size ≤ 200
  · have htd : decide (200 < T.size) = false := by simp; omega
    have ht48 : Hid (T.size ≤ 2 ^ 48) := Lib.hid (by omega)
    by_cases hok : okP t0 o0
    · obtain ⟨t, rfl⟩ : ∃ t : Nat, t0 = (t : Int) := ⟨t0.toNat, by unfold okP at hok; omega⟩
      obtain ⟨o, rfl⟩ : ∃ o : Nat, o0 = (o : Int) := ⟨o0.toNat, by unfold okP at hok; omega⟩
      have p1 : t ≤ 16 := by unfold okP at hok; omega
      have p2 : o ≤ 3 := by unfold okP at hok; omega
      have p3 : o ≤ t := by unfold okP at hok; omega
      clear hok b1 b2 b3 b4
      go_enter Try.func6, Try.ntmps6
      go_wp2_with (first | (go_at_call 11; (with_reducible refine (new_ok hS t o p1 p2 p3).mono ?_); rintro e w1 ⟨cb, rfl, h1⟩; clear hS) | (go_at_call 12; (with_reducible refine (qnew_ok h1 t o p1 p2 p3).mono ?_); rintro e w1 ⟨db, rfl, h2⟩; clear h1) | (go_at_call 28; (with_reducible refine (rd_fit h2 T ht48.out rfl).mono ?_); rintro e w1 ⟨rb, rfl, h3⟩; clear h2) | (go_at_call 29; (with_reducible refine (qread_any h3 T ht48.out).mono ?_); rintro e w1 ⟨qb, rfl, h4⟩; clear h3))
      have HS := Lib.hid h4
      clear h4
      go_loopw [13] (fun i' wr => ∃ (N K l s p : Nat), i' = .int .i64 N ∧ N ≤ 20 ∧ (K ≤ 6 ∧ l ≤ 16 ∧ s ≤ 2) ∧ Hp W wr [aQrd qb T p, aRd rb T p, aQco db K l s, aCo cb K l s] []) (fun i' _ => 20 - (intOf i').toNat)
      case atStart => exact ⟨0, _, _, _, 0, rfl, by omega, ⟨k0_le t o, by omega, s0_le o⟩, HS.out⟩
      case round =>
        obtain ⟨N, K, l, s, p, rfl, hN, hb, g⟩ := hrel
        by_cases hlt : N < 20
        · have hbd := lr_bounds (i := p) (s := T) hb
          obtain ⟨e0, he0⟩ : ∃ x, lrE K l T p = x := ⟨_, rfl⟩
          obtain ⟨z, hz⟩ : ∃ x, lrV K l s T p = x := ⟨_, rfl⟩
          obtain ⟨p', hp'⟩ : ∃ x, lrI K l T p = x := ⟨_, rfl⟩
          obtain ⟨K', hK'⟩ : ∃ x, lrK K l s T p = x := ⟨_, rfl⟩
          obtain ⟨l', hl'⟩ : ∃ x, lrL K l T p = x := ⟨_, rfl⟩
          obtain ⟨s', hs'⟩ : ∃ x, lrS K l s T p = x := ⟨_, rfl⟩
          obtain ⟨q, hq⟩ : ∃ x, lmost K l s = x := ⟨_, rfl⟩
          obtain ⟨P, hP⟩ : ∃ x : Int, (p' : Int) = x := ⟨_, rfl⟩
          rw [hK', hl', hs'] at hbd
          have A := Lib.hid (And.intro he0 (And.intro hz (And.intro hp' (And.intro hK' (And.intro hl' hs')))))
          have HB := Lib.hid hb
          have HB2 := Lib.hid hbd
          have HQ := Lib.hid hq
          have HP := Lib.hid hP
          clear he0 hz hp' hK' hl' hs' hq hP hb hbd
          go_wp2_with (first | (go_at_call 19; (with_reducible refine (most_as2 g 3 at3 HB.out HQ.out).mono ?_); rintro e w1 ⟨rfl, g1⟩; clear g) | (go_at_call 20; (with_reducible refine (qmost_as g1 2 at2 HB.out HQ.out).mono ?_); rintro e w1 ⟨rfl, g2⟩; clear g1) | (go_at_call 30; (with_reducible refine (lread_as g2 3 1 (by decide) at3 at1 HB.out A.out).mono ?_); rintro e w1 ⟨rfl, g3⟩; simp only [set1, set3] at g3; clear g2) | (go_at_call 31; (with_reducible refine (qlread_as g3 2 0 (by decide) at2 at0 HB.out A.out).mono ?_); rintro e w1 ⟨rfl, g4⟩; simp only [set0, set2] at g4; clear g3) | (go_at_call 32; (with_reducible refine (pos_eq g4 1 at1 HP.out).mono ?_); rintro e w1 ⟨rfl, g5⟩; clear g4) | (go_at_call 33; (with_reducible refine (qpos_eq g5 0 at0 HP.out).mono ?_); rintro e w1 ⟨rfl, g6⟩; clear g5))
          go_round
          case rel => exact ⟨N + 1, K', l', s', p', by go_num, by omega, HB2.out, g6⟩
          case measure => simp [intOf]; omega
        · have hN20 : ¬ ((N : Int) < 20) := by omega
          go_wp2_with (first | (go_at_call 10; (with_reducible refine (lknown_any g).mono ?_); rintro e w1 ⟨rfl, g1⟩))
          exact bodyPost_ret (results_tmp rfl _ _ _) rfl ⟨rfl, g1.below⟩
    · have HO := Lib.hid hok
      clear hok
      go_enter Try.func6, Try.ntmps6
      go_wp2_with (first | (go_at_call 11; (with_reducible refine (new_bad t0 o0 (not_okP HO.out) _).mono ?_); rintro e w1 ⟨rfl, rfl⟩) | (go_at_call 12; (with_reducible refine (qnew_bad hS t0 o0 HO.out).mono ?_); rintro e w1 ⟨rfl, h2⟩; clear hS) | (go_at_call 28; (with_reducible refine (rd_fit h2 T ht48.out rfl).mono ?_); rintro e w1 ⟨rb, rfl, h3⟩; clear h2) | (go_at_call 29; (with_reducible refine (qread_any h3 T ht48.out).mono ?_); rintro e w1 ⟨qb, rfl, h4⟩; clear h3))
      have HS := Lib.hid h4
      clear h4
      go_loopw [13] (fun i' wr => i' = .int .i64 0 ∧ Hp W wr [aQrd qb T 0, aRd rb T 0] []) (fun i' _ => 0)
      case atStart => exact ⟨rfl, HS.out⟩
      case round =>
        obtain ⟨rfl, g⟩ := hrel
        go_wp2_with (first | (go_at_call 10; (with_reducible refine (lknown_any g).mono ?_); rintro e w1 ⟨rfl, g1⟩))
        exact bodyPost_ret (results_tmp rfl _ _ _) rfl ⟨rfl, g1.below⟩
  · have htd : decide (200 < T.size) = true := by simp; omega
    go_enter Try.func6, Try.ntmps6
    go_wp2_with (first | (go_at_call 10; (with_reducible refine (lknown_any hS).mono ?_); rintro e w1 ⟨rfl, g4⟩))
    exact bodyPost_ret (results_tmp rfl _ _ _) rfl ⟨rfl, g4.below⟩

end Go.Proofs.Ytmlkkeabgnhhnaa
