/- The walk of BitsExamples. -/
import Derived.Test.YtmolannefhbnkaaKn
import Derived.Test.YtmolannefhbnkaaAs
namespace Go.Proofs.Ytmolannefhbnkaa
open Go.RowKit
set_option linter.unusedVariables false
set_option maxRecDepth 100000
set_option linter.unusedSimpArgs false

def exB : List Bool := [true, false, true, false] ++ [true, true] ++ bitsN 64 18446744073709551615
def exT (c : Nat) : Int := [0, 0, 2, 0, 2, 3, 0].getD c 0
theorem exT_at {c : Nat} (h : c < 7) : (#[.int .i64 0, .int .i64 0, .int .i64 2, .int .i64 0, .int .i64 2, .int .i64 3, .int .i64 0] : Array Value)[c]? = some (.int .i64 (exT c)) := by
  have : c = 0 ∨ c = 1 ∨ c = 2 ∨ c = 3 ∨ c = 4 ∨ c = 5 ∨ c = 6 := by omega
  rcases this with rfl | rfl | rfl | rfl | rfl | rfl | rfl <;> rfl

set_option maxHeartbeats 4000000 in
theorem examples_walk (W : World) : Calls Try.prog 8 #[] W fun e w' => e = .returned (.bool true) ∧ Below W.heap.size W w' := by
  have hS := Hp.start W
  have U0 := Lib.hid (show uE ⟨#[165, 15]⟩ 0 4 = 0 ∧ uI ⟨#[165, 15]⟩ 0 4 = 4 ∧ uV ⟨#[165, 15]⟩ 0 4 = 10 ∧ ((10 : Nat) : Int) = 10 by decide +kernel)
  have U1 := Lib.hid (show uE ⟨#[165, 15]⟩ 4 0 = 0 ∧ uI ⟨#[165, 15]⟩ 4 0 = 4 ∧ uV ⟨#[165, 15]⟩ 4 0 = 0 ∧ ((0 : Nat) : Int) = 0 by decide +kernel)
  have U2 := Lib.hid (show uE ⟨#[165, 15]⟩ 4 8 = 0 ∧ uI ⟨#[165, 15]⟩ 4 8 = 12 ∧ uV ⟨#[165, 15]⟩ 4 8 = 80 ∧ ((80 : Nat) : Int) = 80 by decide +kernel)
  have U3 := Lib.hid (show uE ⟨#[165, 15]⟩ 12 5 = 5 ∧ uI ⟨#[165, 15]⟩ 12 5 = 12 ∧ uV ⟨#[165, 15]⟩ 12 5 = 0 ∧ ((0 : Nat) : Int) = 0 by decide +kernel)
  have U4 := Lib.hid (show uE ⟨#[165, 15]⟩ 12 4 = 0 ∧ uI ⟨#[165, 15]⟩ 12 4 = 16 ∧ uV ⟨#[165, 15]⟩ 12 4 = 15 ∧ ((15 : Nat) : Int) = 15 by decide +kernel)
  have U5 := Lib.hid (show uE ⟨#[165, 15]⟩ 16 0 = 0 ∧ uI ⟨#[165, 15]⟩ 16 0 = 16 ∧ uV ⟨#[165, 15]⟩ 16 0 = 0 ∧ ((0 : Nat) : Int) = 0 by decide +kernel)
  have U6 := Lib.hid (show uE ⟨#[165, 15]⟩ 16 1 = 5 ∧ uI ⟨#[165, 15]⟩ 16 1 = 16 ∧ uV ⟨#[165, 15]⟩ 16 1 = 0 ∧ ((0 : Nat) : Int) = 0 by decide +kernel)
  have U7 := Lib.hid (show uE ⟨#[165]⟩ 0 65 = 3 ∧ uI ⟨#[165]⟩ 0 65 = 0 ∧ uV ⟨#[165]⟩ 0 65 = 0 ∧ ((0 : Nat) : Int) = 0 by decide +kernel)
  have U8 := Lib.hid (show uE ⟨#[165]⟩ 0 (-1) = 3 ∧ uI ⟨#[165]⟩ 0 (-1) = 0 ∧ uV ⟨#[165]⟩ 0 (-1) = 0 ∧ ((0 : Nat) : Int) = 0 by decide +kernel)
  have P0 := Lib.hid (show pE 1 (Int.toNat 1) = 0 ∧ pB [] 1 (Int.toNat 1) = [true] by decide +kernel)
  have P1 := Lib.hid (show pE 3 (Int.toNat 2) = 0 ∧ pB [true] 3 (Int.toNat 2) = [true, false, true, false] by decide +kernel)
  have P2 := Lib.hid (show pE 2 (Int.toNat 4) = 2 ∧ pB [true, false, true, false] 2 (Int.toNat 4) = [true, false, true, false] by decide +kernel)
  have P3 := Lib.hid (show pE 2 (Int.toNat 3) = 0 ∧ pB [true, false, true, false] 2 (Int.toNat 3) = [true, false, true, false, true, true] by decide +kernel)
  have P4 := Lib.hid (show pE 0 (Int.toNat 1) = 2 ∧ pB [true, false, true, false, true, true] 0 (Int.toNat 1) = [true, false, true, false, true, true] by decide +kernel)
  have P5 := Lib.hid (show pE 65 (Int.toNat 0) = 3 ∧ pB [true, false, true, false, true, true] 65 (Int.toNat 0) = [true, false, true, false, true, true] by decide +kernel)
  have P6 := Lib.hid (show pE 64 (Int.toNat 18446744073709551615) = 0 ∧ pB [true, false, true, false, true, true] 64 (Int.toNat 18446744073709551615) = exB by decide +kernel)
  have L70 := Lib.hid (show (exB.length : Int) = 70 by decide +kernel)
  have hl41 : exB.length ≤ 2 ^ 41 := by have := L70.out; omega
  obtain ⟨S, hSe⟩ : ∃ S, S = strB exB := ⟨_, rfl⟩
  have hS70 : S.size = 70 := by rw [hSe, strB_size]; have := L70.out; omega
  have hS7 : (S.extract 0 7).toList = [49, 48, 49, 48, 49, 49, 49] := by rw [hSe]; decide +kernel
  have X1 := Lib.hid hSe.symm; clear hSe
  have X2 := Lib.hid (show pstr exB = ⟨#[175, 255, 255, 255, 255, 255, 255, 255, 252]⟩ by decide +kernel)
  go_enter Try.func8, Try.ntmps8
  go_wp2_with (first | (go_at_call 23; (with_reducible refine (rd_as hS ⟨#[165, 15]⟩ (by decide)).mono ?_); rintro e w1 ⟨rb, rfl, q1⟩; clear hS) | (go_at_call 24; (with_reducible refine (u_as q1 0 at0 4 U0.out).mono ?_); rintro e w1 ⟨rfl, q2⟩; simp only [set0] at q2 ⊢; clear q1) | (go_at_call 24; (with_reducible refine (u_as q2 0 at0 0 U1.out).mono ?_); rintro e w1 ⟨rfl, q3⟩; simp only [set0] at q3 ⊢; clear q2) | (go_at_call 24; (with_reducible refine (u_as q3 0 at0 8 U2.out).mono ?_); rintro e w1 ⟨rfl, q4⟩; simp only [set0] at q4 ⊢; clear q3) | (go_at_call 24; (with_reducible refine (u_as q4 0 at0 5 U3.out).mono ?_); rintro e w1 ⟨rfl, q5⟩; simp only [set0] at q5 ⊢; clear q4) | (go_at_call 24; (with_reducible refine (u_as q5 0 at0 4 U4.out).mono ?_); rintro e w1 ⟨rfl, q6⟩; simp only [set0] at q6 ⊢; clear q5) | (go_at_call 24; (with_reducible refine (u_as q6 0 at0 0 U5.out).mono ?_); rintro e w1 ⟨rfl, q7⟩; simp only [set0] at q7 ⊢; clear q6) | (go_at_call 27; (with_reducible refine (bit_as q7 0 at0 U6.out).mono ?_); rintro e w1 ⟨rfl, q8⟩; simp only [set0] at q8 ⊢; clear q7) | (go_at_call 23; (with_reducible refine (rd_as q8 ⟨#[165]⟩ (by decide)).mono ?_); rintro e w1 ⟨r1, rfl, q9⟩; clear q8) | (go_at_call 24; (with_reducible refine (u_as q9 0 at0 65 U7.out).mono ?_); rintro e w1 ⟨rfl, q10⟩; simp only [set0] at q10 ⊢; clear q9) | (go_at_call 23; (with_reducible refine (rd_as q10 ⟨#[165]⟩ (by decide)).mono ?_); rintro e w1 ⟨r2, rfl, q11⟩; clear q10) | (go_at_call 24; (with_reducible refine (u_as q11 0 at0 (-1) U8.out).mono ?_); rintro e w1 ⟨rfl, q12⟩; simp only [set0] at q12 ⊢; clear q11) | (go_at_call 12; (with_reducible refine (write_any q12).mono ?_); rintro e w1 ⟨wb, rfl, p1⟩; clear q12) | (go_at_call 14; (with_reducible refine (put_as p1 0 at0 (by decide) 1 1 (by decide) (by decide) P0.out).mono ?_); rintro e w1 ⟨rfl, p2⟩; simp only [set0] at p2 ⊢; clear p1) | (go_at_call 14; (with_reducible refine (put_as p2 0 at0 (by decide) 3 2 (by decide) (by decide) P1.out).mono ?_); rintro e w1 ⟨rfl, p3⟩; simp only [set0] at p3 ⊢; clear p2) | (go_at_call 14; (with_reducible refine (put_as p3 0 at0 (by decide) 2 4 (by decide) (by decide) P2.out).mono ?_); rintro e w1 ⟨rfl, p4⟩; simp only [set0] at p4 ⊢; clear p3) | (go_at_call 14; (with_reducible refine (put_as p4 0 at0 (by decide) 2 3 (by decide) (by decide) P3.out).mono ?_); rintro e w1 ⟨rfl, p5⟩; simp only [set0] at p5 ⊢; clear p4) | (go_at_call 14; (with_reducible refine (put_as p5 0 at0 (by decide) 0 1 (by decide) (by decide) P4.out).mono ?_); rintro e w1 ⟨rfl, p6⟩; simp only [set0] at p6 ⊢; clear p5) | (go_at_call 14; (with_reducible refine (put_as p6 0 at0 (by decide) 65 0 (by decide) (by decide) P5.out).mono ?_); rintro e w1 ⟨rfl, p7⟩; simp only [set0] at p7 ⊢; clear p6) | (go_at_call 14; (with_reducible refine (put_as p7 0 at0 (by decide) 64 18446744073709551615 (by decide) (by decide) P6.out).mono ?_); rintro e w1 ⟨rfl, p8⟩; simp only [set0] at p8 ⊢; clear p7))
  have a1 := (p8.alloc (.cells #[.int .i64 0, .int .i64 0, .int .i64 2, .int .i64 0, .int .i64 2, .int .i64 3, .int .i64 0] 28 (0, 0))).alloc (.cells #[.int .i64 0, .int .i64 0, .int .i64 2, .int .i64 0, .int .i64 2, .int .i64 3, .int .i64 0] 28 (0, 0))
  obtain ⟨w2, hw2⟩ : ∃ x, x = (w1.alloc (.cells #[.int .i64 0, .int .i64 0, .int .i64 2, .int .i64 0, .int .i64 2, .int .i64 3, .int .i64 0] 28 (0, 0))).alloc (.cells #[.int .i64 0, .int .i64 0, .int .i64 2, .int .i64 0, .int .i64 2, .int .i64 3, .int .i64 0] 28 (0, 0)) := ⟨_, rfl⟩
  have hsz : (w1.alloc (.cells #[.int .i64 0, .int .i64 0, .int .i64 2, .int .i64 0, .int .i64 2, .int .i64 3, .int .i64 0] 28 (0, 0))).heap.size = w1.heap.size + 1 := by simp
  rw [hsz] at a1
  rw [← hw2] at a1 ⊢
  clear hw2 hsz
  generalize w1.heap.size = g1 at *
  have HA := Lib.hid a1
  clear a1 p8
  go_loopw [17] (fun i wr => ∃ c : Nat, i = .int .i64 c ∧ c ≤ 7 ∧ Hp W wr [aWr wb exB, aRd r2 ⟨#[165]⟩ 0, aRd r1 ⟨#[165]⟩ 0, aRd rb ⟨#[165, 15]⟩ 16] [(g1 + 1, .cells #[.int .i64 0, .int .i64 0, .int .i64 2, .int .i64 0, .int .i64 2, .int .i64 3, .int .i64 0] 28 (0, 0)), (g1, .cells #[.int .i64 0, .int .i64 0, .int .i64 2, .int .i64 0, .int .i64 2, .int .i64 3, .int .i64 0] 28 (0, 0))]) (fun i _ => 7 - (intOf i).toNat)
  case atStart => exact ⟨0, rfl, by omega, HA.out⟩
  case round =>
    obtain ⟨c, rfl, hc, g⟩ := hrel
    by_cases hlt : c < 7
    · have hc1 := cell_in g (List.mem_cons_of_mem _ (List.mem_singleton_self _)) (exT_at hlt)
      have hc2 := cell_in g (List.mem_cons_self ..) (exT_at hlt)
      have hlt' : (c : Int) < 7 := by omega
      have G := Lib.hid g; clear g
      go_wp2_with (fail)
      go_quiet (fail)
      go_wp2_with (fail)
      go_roundw
      case rel => exact ⟨c + 1, by go_num, by omega, G.out.drewN _⟩
      case measure => simp [intOf]; omega
    · obtain rfl : c = 7 := by omega
      have g2 := g
      clear g
      go_wp2_with (first | (go_at_call 16; (with_reducible refine (len_as g2 0 at0 hl41 L70.out).mono ?_); rintro e w1 ⟨rfl, f1⟩; clear g2) | (go_at_call 18; (with_reducible refine (wbits_eq f1 0 at0 hl41 X1.out).mono ?_); rintro e w1 ⟨rfl, f2⟩; clear f1) | (go_at_call 18; (with_reducible refine (wbits_eq f2 0 at0 hl41 X1.out).mono ?_); rintro e w1 ⟨rfl, f3⟩; clear f2) | (go_at_call 20; (with_reducible refine (bytes_eq f3 0 at0 hl41 X2.out).mono ?_); rintro e w1 ⟨rfl, f4⟩; clear f3) | (go_at_call 27; (with_reducible refine (bit_nil _).mono ?_); rintro e w1 ⟨rfl, rfl⟩) | (go_at_call 24; (with_reducible refine (u_nil _ _).mono ?_); rintro e w1 ⟨rfl, rfl⟩) | (go_at_call 25; (with_reducible refine (pos_nil _).mono ?_); rintro e w1 ⟨rfl, rfl⟩) | (go_at_call 26; (with_reducible refine (left_nil _).mono ?_); rintro e w1 ⟨rfl, rfl⟩) | (go_at_call 30; (with_reducible refine (copy_nil _).mono ?_); rintro e w1 ⟨rfl, rfl⟩) | (go_at_call 14; (with_reducible refine (put_nil _ _ _).mono ?_); rintro e w1 ⟨rfl, rfl⟩) | (go_at_call 16; (with_reducible refine (len_nil _).mono ?_); rintro e w1 ⟨rfl, rfl⟩) | (go_at_call 20; (with_reducible refine (bytes_nil _).mono ?_); rintro e w1 ⟨rfl, rfl⟩) | (go_at_call 18; (with_reducible refine (wbits_nil_hp f4).mono ?_); rintro e w1 ⟨rfl, f5⟩; clear f4) | (go_at_call 11; (with_reducible refine (known_any f5).mono ?_); rintro e w1 ⟨rfl, f6⟩; clear f5))
      exact bodyPost_ret (results_tmp rfl _ _ _) rfl ⟨rfl, f6.below⟩

end Go.Proofs.Ytmolannefhbnkaa
