/- The walk of BinsTypes. -/
import Derived.Test.YtnefiaghojojgaaVf
import Derived.Deep.LoopGhost
import Derived.Deep.Cut
import Derived.Deep.CutRange
namespace Go.Proofs.Ytnefiaghojojgaa
open Go.RowKit Go.Shelf
set_option linter.unusedVariables false
set_option maxRecDepth 100000
set_option linter.unusedSimpArgs false

/-- The facts of a type number, one way. -/
structure TyW (a : Nat) (X P : List (Int × Int)) (n : Nat) (z : Int) (r0 r25 r1 : Bool) : Prop where
  lt : a < 26
  x : tyB a true 0 = X
  p : tyB a false 0 = P
  xl : X.length = n
  pl : P.length = n
  n1 : 0 < n
  n6 : n ≤ 6
  e0 : ((a : Int) == 0) = r0
  e25 : ((a : Int) == 25) = r25
  e1 : ((n : Int) == 1) = r1
  mn : min (a : Int) 1 = z
  bit : (X.getD 0 (0, 0)).2 = z
  ctx : (X.getD 0 (0, 0)).1 = 3
  pctx : (P.getD 0 (0, 0)).1 = 15
theorem tyW (a : Nat) (ha : a < 26) : ∃ X P n, (TyW a X P n 0 true false true ∨ TyW a X P n 1 false true true ∨ TyW a X P n 1 false false false) := by
  obtain ⟨h1, h2, h3, h4, h5⟩ := ty_1 a ha
  obtain ⟨h6, h7⟩ := ty_2 a ha
  refine ⟨tyX a, tyB a false 0, (tyX a).length, ?_⟩
  by_cases c0 : a = 0
  · left
    subst c0
    exact ⟨ha, rfl, rfl, rfl, h6, h1, h2, rfl, rfl, by decide +kernel, rfl, h4, h3, h7⟩
  · by_cases c1 : a = 25
    · right; left
      subst c1
      exact ⟨ha, rfl, rfl, rfl, h6, h1, h2, rfl, rfl, by decide +kernel, rfl, h4, h3, h7⟩
    · right; right
      have : (tyX a).length ≠ 1 := by
        rw [decide_eq_false (by omega)] at h5
        exact of_decide_eq_false h5.symm
      refine ⟨ha, rfl, rfl, rfl, h6, h1, h2, by simp; omega, by simp; omega, ?_, by omega, ?_, h3, h7⟩
      · simp only [beq_eq_false_iff_ne, ne_eq]
        show ¬ (((tyX a).length : Nat) : Int) = 1
        omega
      · show ((tyX a).getD 0 (0, 0)).2 = 1
        rw [h4]; omega

set_option maxHeartbeats 8000000 in
theorem types_walk {W : World} : Calls Try.prog 3 #[] W fun e w' => e = .returned (.bool true) ∧ Below W.heap.size W w' := by
  have hS := Hp.start W
  go_enter Try.func3, Try.ntmps3
  go_wp2_with (fail)
  go_loopg [1] 27 (fun g i wr => ∃ a : Nat, g = 27 - a ∧ a ≤ 26 ∧ i = .int .i64 a ∧ Hp W wr [] [])
  case atStart => exact ⟨0, rfl, by omega, rfl, hS⟩
  case round =>
    obtain ⟨a, rfl, ha, rfl, h⟩ := hrel
    by_cases hlt : a < 26
    · obtain ⟨X, P, n, hT⟩ := tyW a hlt
      have hle : (a : Int) ≤ 25 := by omega
      obtain ⟨te1, te2, te3, te4⟩ := ty_e a hlt
      have TE := Lib.hid (And.intro te1 (And.intro te2 (And.intro te3 te4)))
      clear te1 te2 te3 te4
      have hT2 : tyB a true 0 = X ∧ tyB a false 0 = P ∧ X.length = n ∧ P.length = n ∧ 0 < n ∧ n ≤ 6 ∧ (X.getD 0 (0, 0)).1 = 3 ∧ (P.getD 0 (0, 0)).1 = 15 := by
        rcases hT with hT | hT | hT <;> exact ⟨hT.x, hT.p, hT.xl, hT.pl, hT.n1, hT.n6, hT.ctx, hT.pctx⟩
      obtain ⟨t2, t3, t4, t5, t6, t7, ctx, pctx⟩ := hT2
      have HT := Lib.hid hT
      have T := Lib.hid (And.intro t2 (And.intro t3 (And.intro t4 t5)))
      have B := Lib.hid (And.intro ctx pctx)
      clear hT t2 t3 t4 t5 ctx pctx
      go_upto_region 5 with (first | (go_at_call 7; (with_reducible refine (type_as (E := 0) h _ _ _ TE.out.1 T.out.1 T.out.2.2.1 t6).mono ?_); rintro e w1 ⟨g, cap, rfl, h1⟩; clear h; have H1 := Lib.hid h1; clear h1))
      go_cut [51] from 14 to 186 (fun s51 wx => s51 = .bool false ∧ w1 = wx)
      case first =>
        rcases HT.out with hT | hT | hT
        all_goals
          obtain ⟨t1, t2, t3, t4, t5, _, _, e0, e25, e1, mn, bit, ctx, pctx⟩ := hT
          clear t2 t3 t4 t5 ctx pctx
          obtain ⟨q1, q2, q3⟩ := H1.out.bnAt 0 at0 (by have := T.out.2.2.1; omega)
          obtain ⟨k0, k1⟩ := q1.get t6
          rw [bit] at k1
          simp only [Nat.zero_mul, Nat.zero_add] at k0 k1
          have Q := Lib.hid (And.intro q1 q2)
          clear q1 q2 q3 bit
          go_wp2_with (fail)
          go_meet
          exact ⟨congrArg Value.bool (by simp; omega), rfl⟩
      case rest =>
        obtain ⟨rfl, rfl⟩ := hcut
        go_wp2_with (first | (go_at_call 7; (with_reducible refine (type_as (E := 0) H1.out _ _ _ TE.out.2.1 T.out.2.1 T.out.2.2.2 t6).mono ?_); rintro e w2 ⟨gp, capp, rfl, h2⟩))
        have HS := Lib.hid h2
        clear h2
        go_loopw [6] (fun i wr => ∃ k : Nat, k ≤ n ∧ i = .int .i64 k ∧ Hp W wr [aBs gp n capp P, aBs g n cap X] []) (fun i _ => n - (intOf i).toNat)
        case atStart => exact ⟨0, Nat.zero_le _, rfl, HS.out⟩
        case round =>
          obtain ⟨k, hk, rfl, h3⟩ := hrel
          by_cases hkn : k < n
          · have p1 := (h3.bnAt 0 at0 (by have := T.out.2.2.2; omega)).1
            have x1 := (h3.bnAt 1 at1 (by have := T.out.2.2.1; omega)).1
            obtain ⟨c1, c2⟩ := p1.get hkn
            obtain ⟨d1, d2⟩ := x1.get hkn
            simp only [Nat.zero_add] at c1 c2 d1 d2
            have hX : tyX a = X := T.out.1
            have f1 := ty_2b a hlt k (by omega) (by rw [hX, T.out.2.2.1]; exact hkn)
            rw [hX, T.out.2.1] at f1
            rw [f1] at c2
            have hkni : (k : Int) < (n : Int) := by omega
            generalize (X.getD k (0, 0)).2 = z at c2 d2
            have H3 := Lib.hid h3
            by_cases hk0 : k = 0
            · rw [hk0, B.out.2, ← hk0] at c1
              rw [hk0, B.out.1, ← hk0] at d1
              have i0 : ((k : Int) == 0) = true := by simp; omega
              have i1 : decide (0 < k) = false := by simp; omega
              clear h3 p1 x1 f1 hX hk0
              go_wp2_with (fail)
              go_quiet (fail)
              go_wp2_with (fail)
              go_roundw
              case rel => exact ⟨k + 1, by omega, by go_num, H3.out.drewN nq⟩
              case measure => simp [intOf]; omega
            · have f2 := ty_2c a hlt k (by omega) (by rw [hX, T.out.2.2.1]; exact hkn) (by omega)
              rw [hX, T.out.2.1] at f2
              rw [f2.1] at c1
              have i0 : ((k : Int) == 0) = false := by simp; omega
              have i1 : decide (0 < k) = true := by simp; omega
              generalize (X.getD k (0, 0)).1 = y at c1 d1 f2
              have i2 : IntKind.i64.wrap (y + 10) = y + 10 := IntWalk.i64_in _ (by omega)
              clear h3 p1 x1 f1 hX hk0 f2
              go_wp2_with (fail)
              go_quiet (fail)
              go_wp2_with (fail)
              go_roundw
              case rel => exact ⟨k + 1, by omega, by go_num, H3.out.drewN nq⟩
              case measure => simp [intOf]; omega
          · obtain rfl : k = n := by omega
            go_wp2_with (fail)
            have HS3 := Lib.hid h3
            clear h3
            go_loopw [7] (fun i wr => ∃ j : Nat, 1 ≤ j ∧ j ≤ 3 ∧ i = .int .i64 j ∧ Hp W wr [aBs gp k capp P, aBs g k cap X] []) (fun i _ => 3 - (intOf i).toNat)
            case atStart => exact ⟨1, by omega, by omega, rfl, HS3.out⟩
            case round =>
              obtain ⟨j, hj1, hj, rfl, h3⟩ := hrel
              by_cases hj3 : j < 3
              · have hX : tyX a = X := T.out.1
                obtain ⟨f1, f2, f3⟩ := ty_3 a hlt j hj3 hj1
                rw [hX] at f1 f2 f3
                have hE : tyE a true j = 0 := by
                  have : j = 1 ∨ j = 2 := by omega
                  rcases this with rfl | rfl
                  · exact TE.out.2.2.1
                  · exact TE.out.2.2.2
                obtain ⟨Y, hY⟩ : ∃ Y, tyB a true j = Y := ⟨_, rfl⟩
                rw [hY] at f1 f2 f3
                have FY := Lib.hid (And.intro hY (And.intro (f1.trans T.out.2.2.1) (And.intro f2 f3)))
                have HE := Lib.hid hE
                have H3 := Lib.hid h3
                clear f1 f2 f3 hY hE hX h3
                go_wp2_with (first | (go_at_call 7; (with_reducible refine (type_as (E := 0) H3.out _ _ _ HE.out FY.out.1 FY.out.2.1 t6).mono ?_); rintro e w3 ⟨gy, capy, rfl, h4⟩))
                obtain ⟨y1, y2, _⟩ := h4.bnAt 0 at0 (by have := FY.out.2.1; omega)
                rename_i y3
                clear y3
                obtain ⟨x1, x2, _⟩ := h4.bnAt 2 at2 (by have := T.out.2.2.1; omega)
                rename_i x3
                clear x3
                obtain ⟨c1, c2⟩ := y1.get t6
                obtain ⟨d1, d2⟩ := x1.get t6
                rw [FY.out.2.2.1] at c1 c2
                simp only [Nat.zero_mul, Nat.zero_add] at c1 c2 d1 d2
                generalize (X.getD 0 (0, 0)).2 = z at c2 d2
                have hq := fun w => bin_eq (3 + (j : Int)) z (3 + (j : Int)) z w
                rw [decide_eq_true rfl] at hq
                obtain ⟨qy, cy, hsy, by1⟩ := slice_from y1 y2 t6
                obtain ⟨qx, cx, hsx, bx1⟩ := slice_from x1 x2 t6
                have i1 : IntKind.i64.wrap (3 + (j : Int)) = 3 + (j : Int) := IntWalk.i64_in _ (by omega)
                have i2 : ((k : Int) != (k : Int)) = false := by simp
                have i3 : (0 : Int) < (k : Int) := by omega
                have HY := Lib.hid (And.intro by1 bx1)
                have H4 := Lib.hid h4
                have hr : decide (Y.tail = X.tail) = true := decide_eq_true FY.out.2.2.2
                have HR := Lib.hid hr
                clear y1 y2 x1 x2 by1 bx1 h4 hr d1
                go_quiet (((go_at_call 8; with_reducible exact equal_q HY.out.1 HY.out.2 HR.out _)))
                go_wp2_with (fail)
                go_roundw
                case rel => exact ⟨j + 1, by omega, by omega, by go_num, (H4.out.drewN nq).tail⟩
                case measure => simp [intOf]; omega
              · go_wp2_with (fail)
                have HS4 := Lib.hid h3
                clear h3
                go_loopw [10] (fun i wr => ∃ b : Nat, 1 ≤ b ∧ b ≤ 26 ∧ i = .int .i64 b ∧ Hp W wr [aBs gp k capp P, aBs g k cap X] []) (fun i _ => 26 - (intOf i).toNat)
                case atStart => exact ⟨1, by omega, by omega, rfl, HS4.out⟩
                case round =>
                  obtain ⟨b, hb1, hb, rfl, h3⟩ := hrel
                  by_cases hba : b < a
                  · by_cases ha25 : a < 25
                    · have hX : tyX a = X := T.out.1
                      have f1 := ty_4 a ha25 b hba hb1
                      obtain ⟨f2, f3, _⟩ := ty_1 b (by omega)
                      obtain ⟨f4, _⟩ := ty_e b (by omega)
                      obtain ⟨Y, hY⟩ : ∃ Y, tyB b true 0 = Y := ⟨_, rfl⟩
                      have hY2 : tyX b = Y := hY
                      rw [hX, hY2] at f1
                      rw [hY2] at f2 f3
                      obtain ⟨m, hm⟩ : ∃ m, m = Y.length := ⟨_, rfl⟩
                      obtain ⟨q, hq⟩ : ∃ q, q = min k m := ⟨_, rfl⟩
                      rw [T.out.2.2.1, ← hm, ← hq] at f1
                      rw [← hm] at f2 f3
                      have hmin : min (k : Int) (m : Int) = (q : Int) := by omega
                      have hq1 : q ≤ k ∧ q ≤ m := by omega
                      have FY := Lib.hid (And.intro hY (And.intro hm.symm (And.intro f4 f1)))
                      have hm0 : 0 < m := by omega
                      have H3 := Lib.hid h3
                      have hr : decide (X.take q = Y.take q) = false := decide_eq_false f1
                      have HR := Lib.hid hr
                      clear f1 hY hX h3 hm hq hY2 f4 hr
                      go_wp2_with (first | (go_at_call 7; (with_reducible refine (type_as (E := 0) H3.out _ _ _ FY.out.2.2.1 FY.out.1 FY.out.2.1 hm0).mono ?_); rintro e w3 ⟨gy, capy, rfl, h4⟩))
                      have y1 := (h4.bnAt 0 at0 (by have := FY.out.2.1; omega)).1
                      have y2 := (h4.bnAt 0 at0 (by have := FY.out.2.1; omega)).2.1
                      have x1 := (h4.bnAt 2 at2 (by have := T.out.2.2.1; omega)).1
                      have x2 := (h4.bnAt 2 at2 (by have := T.out.2.2.1; omega)).2.1
                      obtain ⟨hsy, by1⟩ := slice_to y1 y2 hq1.2
                      obtain ⟨hsx, bx1⟩ := slice_to x1 x2 hq1.1
                      have HY := Lib.hid (And.intro by1 bx1)
                      have H4 := Lib.hid h4
                      clear y1 y2 x1 x2 by1 bx1 h4
                      go_wp2_with (fail)
                      go_quiet (((go_at_call 8; with_reducible exact equal_q HY.out.2 HY.out.1 HR.out _)))
                      go_wp2_with (fail)
                      go_roundw
                      case rel => exact ⟨b + 1, by omega, by omega, by go_num, (H4.out.drewN nq).tail⟩
                      case measure => simp [intOf]; omega
                    · go_wp2_with (fail)
                      go_roundg (27 - (a + 1))
                      case rel => exact ⟨a + 1, rfl, by omega, by go_num, h3.tail.tail⟩
                      case measure => omega
                  · go_wp2_with (fail)
                    go_roundg (27 - (a + 1))
                    case rel => exact ⟨a + 1, rfl, by omega, by go_num, h3.tail.tail⟩
                    case measure => omega
    · obtain rfl : a = 26 := by omega
      go_wp2_with (first | (go_at_call 9; (with_reducible refine (alive_any h).mono ?_); rintro e w1 ⟨rfl, h1⟩))
      exact bodyPost_ret (results_tmp rfl _ _ _) rfl ⟨rfl, h1.below⟩

end Go.Proofs.Ytnefiaghojojgaa
