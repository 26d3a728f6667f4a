/- Valid. -/
import Derived.Test.YtnigpledibhiaaaVb
import Derived.Deep.RegionHeld3
import Derived.Deep.Cut
import Derived.Deep.CutRange
import Derived.Deep.CutBlock
import Derived.StillTailTactics
namespace Go.Proofs.Ytnigpledibhiaaa
open Go.RowKit
set_option linter.unusedVariables false
set_option maxRecDepth 100000
set_option linter.unusedSimpArgs false

@[reducible] def n8Ob (n0 n1 n2 n3 n4 n5 n6 n7 : Int) : Obj := .cells #[.int .i64 n0, .int .i64 n1, .int .i64 n2, .int .i64 n3, .int .i64 n4, .int .i64 n5, .int .i64 n6, .int .i64 n7] 38 (0, 0)
theorem n8_cells {w : World} {q : Nat} {n0 n1 n2 n3 n4 n5 n6 n7 : Int} (h : w.heap[q]? = some (n8Ob n0 n1 n2 n3 n4 n5 n6 n7)) : w.cell? ⟨q, 0, none⟩ = some (.int .i64 n0) ∧ w.cell? ⟨q, 1, none⟩ = some (.int .i64 n1) ∧ w.cell? ⟨q, 2, none⟩ = some (.int .i64 n2) ∧ w.cell? ⟨q, 3, none⟩ = some (.int .i64 n3) ∧ w.cell? ⟨q, 4, none⟩ = some (.int .i64 n4) ∧ w.cell? ⟨q, 5, none⟩ = some (.int .i64 n5) ∧ w.cell? ⟨q, 6, none⟩ = some (.int .i64 n6) ∧ w.cell? ⟨q, 7, none⟩ = some (.int .i64 n7) := by
  refine ⟨?_, ?_, ?_, ?_, ?_, ?_, ?_, ?_⟩ <;> simp [World.cell?, h]

@[reducible] def In64 (n : Int) : Prop := -9223372036854775808 ≤ n ∧ n < 9223372036854775808
theorem emod_nat (x : Int) (m : Nat) (hm : 1 ≤ m) : ∃ k : Nat, x % (m : Int) = (k : Int) ∧ k < m := by
  have h1 := Int.emod_nonneg x (show (m : Int) ≠ 0 by omega)
  have h2 := Int.emod_lt_of_pos x (show (0 : Int) < (m : Int) by omega)
  exact ⟨(x % (m : Int)).toNat, by omega, by omega⟩
theorem u8_mod (x : Int) : ∃ k : Nat, IntKind.u8.wrap x = (k : Int) ∧ k < 256 := by
  obtain ⟨k, h1, h2⟩ := emod_nat x 256 (by omega)
  exact ⟨k, by rw [IntKind.wrap_u8]; exact h1, h2⟩
theorem quo_le {m t q : Nat} (hq : q = min 128 (8160 / m)) (ht : t < q) (hm : 1 ≤ m) : m * (t + 1) ≤ 8160 ∧ t + 1 ≤ 128 := by
  have h1 : t + 1 ≤ 8160 / m := by omega
  refine ⟨?_, by omega⟩
  calc m * (t + 1) ≤ m * (8160 / m) := Nat.mul_le_mul_left _ h1
    _ ≤ 8160 := Nat.mul_div_le 8160 m

set_option maxHeartbeats 2000000 in
theorem valid_any (n0 n1 n2 n3 n4 n5 n6 n7 : Int) (b1 : In64 n1) (b2 : In64 n2) (b3 : In64 n3) (b4 : In64 n4) (b5 : In64 n5) (b6 : In64 n6) :
    ∃ x : SpsD, okS x = true ∧ okU x ∧ ∀ (W w : World) (L : List AObj) (F : List (Nat × Obj)), Hp W w L F → Calls Try.prog 17 #[.agg #[.int .i64 n0, .int .i64 n1, .int .i64 n2, .int .i64 n3, .int .i64 n4, .int .i64 n5, .int .i64 n6, .int .i64 n7]] w fun e w' => e = .returned (sv x) ∧ Hp W w' L F := by
  obtain ⟨p, hp, lp⟩ := u8_mod n0
  obtain ⟨f, hf, lf⟩ := u8_mod (n0 / 256)
  obtain ⟨l, hl, ll⟩ := u8_mod (n0 / 65536)
  obtain ⟨i0, hi, li⟩ := emod_nat n1 32 (by omega)
  obtain ⟨a, ha, la⟩ := emod_nat n2 13 (by omega)
  obtain ⟨b, hb, lb⟩ := emod_nat n3 13 (by omega)
  obtain ⟨r, hr, lr⟩ := emod_nat n4 17 (by omega)
  obtain ⟨u, hu, lu⟩ := emod_nat n5 128 (by omega)
  obtain ⟨q, hq⟩ : ∃ q : Nat, q = min 128 (8160 / (u + 1)) := ⟨_, rfl⟩
  have q1 : 1 ≤ q := by
    have : 1 ≤ 8160 / (u + 1) := (Nat.one_le_div_iff (by omega)).2 (by omega)
    omega
  obtain ⟨t, ht, lt⟩ := emod_nat n6 q q1
  obtain ⟨g1, g2⟩ := quo_le hq lt (by omega)
  refine ⟨⟨p, f, l, i0, 4 + (a : Int), 4 + (b : Int), r, 1 + (u : Int), 1 + (t : Int)⟩, ?_, ?_, fun W w L F h => ?_⟩
  · unfold okS
    have : ¬ 8160 < (1 + (u : Int)) * (1 + (t : Int)) := by
      have h2 : (1 + (u : Int)) * (1 + (t : Int)) = (((u + 1) * (t + 1) : Nat) : Int) := by push_cast; rw [Int.add_comm 1, Int.add_comm 1]
      rw [h2]; omega
    simp only [Bool.and_eq_true, decide_eq_true_eq, Bool.not_eq_true', decide_eq_false_iff_not]
    refine ⟨⟨⟨⟨⟨⟨⟨?_, ?_⟩, ?_, ?_⟩, ?_, ?_⟩, ?_, ?_⟩, ?_, ?_⟩, ?_, ?_⟩, this⟩ <;> omega
  · unfold okU; simp only; omega
  have M1 := Lib.hid (show In64 n1 ∧ n1 % 32 = (i0 : Int) from ⟨b1, hi⟩)
  have M2 := Lib.hid (show In64 n2 ∧ n2 % 13 = (a : Int) from ⟨b2, ha⟩)
  have M3 := Lib.hid (show In64 n3 ∧ n3 % 13 = (b : Int) from ⟨b3, hb⟩)
  have M4 := Lib.hid (show In64 n4 ∧ n4 % 17 = (r : Int) from ⟨b4, hr⟩)
  have M5 := Lib.hid (show In64 n5 ∧ n5 % 128 = (u : Int) from ⟨b5, hu⟩)
  have M6 := Lib.hid (show In64 n6 ∧ n6 % (q : Int) = (t : Int) from ⟨b6, ht⟩)
  have M7 := Lib.hid (show 1 ≤ (q : Int) ∧ (q : Int) ≤ 1048576 by omega)
  have wa : IntKind.i64.wrap (4 + (a : Int)) = 4 + (a : Int) := by rw [IntKind.wrap_i64]; omega
  have wb : IntKind.i64.wrap (4 + (b : Int)) = 4 + (b : Int) := by rw [IntKind.wrap_i64]; omega
  have wu : IntKind.i64.wrap (1 + (u : Int)) = 1 + (u : Int) := by rw [IntKind.wrap_i64]; omega
  have wt : IntKind.i64.wrap (1 + (t : Int)) = 1 + (t : Int) := by rw [IntKind.wrap_i64]; omega
  have nz : ¬ (1 + (u : Int) = 0) := by omega
  obtain ⟨D, hD⟩ : ∃ D : Nat, D = 8160 / (u + 1) := ⟨_, rfl⟩
  have wq : Int.tdiv 8160 (1 + (u : Int)) = (D : Int) := by
    rw [Int.tdiv_eq_ediv_of_nonneg (by omega), hD, Int.add_comm]
    rfl
  have wD : IntKind.i64.wrap (D : Int) = (D : Int) := by have : D ≤ 8160 := by rw [hD]; exact Nat.div_le_self _ _
                                                         rw [IntKind.wrap_i64]; omega
  have wm : min 128 (D : Int) = (q : Int) := by omega
  have sp : n0 / 2 ^ 8 = n0 / 256 := by rfl
  have H := Lib.hid h
  clear hi ha hb hr hu ht h b1 b2 b3 b4 b5 b6 g1 g2 hq hD lt q1 lp lf ll li la lb lr lu
  go_enter Try.func17, Try.ntmps17
  go_upto_region 1 with (fail)
  have h1 := (H.out.alloc (n8Ob n0 n1 n2 n3 n4 n5 n6 n7)).alloc (sOb s00)
  simp only [World.size_alloc] at h1
  generalize ((w.alloc (.cells #[.int .i64 n0, .int .i64 n1, .int .i64 n2, .int .i64 n3, .int .i64 n4, .int .i64 n5, .int .i64 n6, .int .i64 n7] 38 (0, 0))).alloc (.cells #[.int .u8 0, .int .u8 0, .int .u8 0, .int .i64 0, .int .i64 0, .int .i64 0, .int .i64 0, .int .i64 0, .int .i64 0] 23 (0, 0))) = w1 at h1 ⊢
  generalize w.heap.size = m at *
  obtain ⟨c0, c1, c2, c3, c4, c5, c6, c7⟩ := n8_cells (h1.blk mem1)
  have HB := Lib.hid h1
  clear h1
  generalize hk : w1.heap.size = k
  have HF := Lib.hid (show Hp W ((w1.alloc (sOb ⟨p, f, l, i0, 4 + (a : Int), 4 + (b : Int), r, 1 + (u : Int), 0⟩)).drew) L ((k, sOb ⟨p, f, l, i0, 4 + (a : Int), 4 + (b : Int), r, 1 + (u : Int), 0⟩) :: (m + 1, sOb s00) :: (m, n8Ob n0 n1 n2 n3 n4 n5 n6 n7) :: F) from hk ▸ (HB.out.alloc (sOb ⟨p, f, l, i0, 4 + (a : Int), 4 + (b : Int), r, 1 + (u : Int), 0⟩)).drew)
  go_cut [3] from 4 (fun s3 wx => s3 = .pointer (some ⟨k, 0, none⟩) ∧ Hp W wx L ((k, sOb ⟨p, f, l, i0, 4 + (a : Int), 4 + (b : Int), r, 1 + (u : Int), 0⟩) :: (m + 1, sOb s00) :: (m, n8Ob n0 n1 n2 n3 n4 n5 n6 n7) :: F))
  case first =>
    go_region_held3 (fun w' => w'.cell? ⟨m, 0, none⟩ = some (.int .i64 n0) ∧ w'.cell? ⟨m, 1, none⟩ = some (.int .i64 n1) ∧ w'.cell? ⟨m, 2, none⟩ = some (.int .i64 n2) ∧ w'.cell? ⟨m, 3, none⟩ = some (.int .i64 n3) ∧ w'.cell? ⟨m, 4, none⟩ = some (.int .i64 n4) ∧ w'.cell? ⟨m, 5, none⟩ = some (.int .i64 n5)) (first | exact ⟨c0, c1, c2, c3, c4, c5⟩ | go_keep) (first | (go_at_call 18; (with_reducible refine (vmod_as ⟨by decide, by decide⟩ M1.out.1 M1.out.2 _).mono ?_); rintro e wx ⟨rfl, rfl⟩) | (go_at_call 18; (with_reducible refine (vmod_as ⟨by decide, by decide⟩ M2.out.1 M2.out.2 _).mono ?_); rintro e wx ⟨rfl, rfl⟩) | (go_at_call 18; (with_reducible refine (vmod_as ⟨by decide, by decide⟩ M3.out.1 M3.out.2 _).mono ?_); rintro e wx ⟨rfl, rfl⟩) | (go_at_call 18; (with_reducible refine (vmod_as ⟨by decide, by decide⟩ M4.out.1 M4.out.2 _).mono ?_); rintro e wx ⟨rfl, rfl⟩) | (go_at_call 18; (with_reducible refine (vmod_as ⟨by decide, by decide⟩ M5.out.1 M5.out.2 _).mono ?_); rintro e wx ⟨rfl, rfl⟩))
    all_goals (go_wp2_with (fail); go_meet; exact ⟨rfl, HF.out⟩)
  case rest =>
    obtain ⟨rfl, hx⟩ := hcut
    clear c0 c1 c2 c3 c4 c5 c6 c7 HB HF hk
    obtain ⟨c0, c1, c2, c3, c4, c5, c6, c7⟩ := n8_cells (hx.blk mem2)
    obtain ⟨s0, s1, s2, s3, s4, s5, s6, s7, s8⟩ := sOb_cells (hx.blk (List.mem_cons_self ..))
    obtain ⟨f0, f1, f2, f3, f4, f5, f6, f7, f8⟩ := sOb_free (hx.blk (List.mem_cons_self ..))
    have HX := Lib.hid hx
    clear hx c0 c1 c2 c3 c4 c5 c7 s0 s1 s2 s3 s4 s5 s6 f0 f1 f2 f3 f4 f5 f6 f7 M1 M2 M3 M4 M5 wa wb sp hp hf hl
    go_upto_region 2 with (fail)
    refine wp_region_still_tail 9 (by kernel_rfl) (by kernel_rfl) ?_
    simp only [List.take_succ_cons, List.take_zero, List.drop_succ_cons, List.drop_zero]
    iterate 6 still_step
    still_call ((vmod_as M7.out M6.out.1 M6.out.2 _).mono fun _ _ ⟨he, hw⟩ => ⟨he, hw.symm⟩)
    repeat still_step
    try refine wpStill_nil ?_
    change wpList _ _ _ _ _ wc.drew
    go_upto_region 3 with (fail)
    have h5 : Hp W (wc.setCell ⟨k, 8, none⟩ (.int .i64 (1 + (t : Int)))).drew L ((k, sOb ⟨p, f, l, i0, 4 + (a : Int), 4 + (b : Int), r, 1 + (u : Int), 1 + (t : Int)⟩) :: (m + 1, sOb s00) :: (m, n8Ob n0 n1 n2 n3 n4 n5 n6 n7) :: F) := (HX.out.set 0 rfl 8 _).drew
    clear c6 s7 s8 f8 HX
    generalize (wc.setCell ⟨k, 8, none⟩ (.int .i64 (1 + (t : Int)))).drew = w5 at h5 ⊢
    obtain ⟨s0, s1, s2, s3, s4, s5, s6, s7, s8⟩ := sOb_cells (h5.blk (List.mem_cons_self ..))
    obtain ⟨r0, r1, r2, r3, r4, r5, r6, r7, r8⟩ := sOb_free (h5.blk mem1)
    obtain ⟨t0, t1, t2, t3, t4, t5, t6, t7, t8⟩ := sOb_cells (h5.blk mem1)
    have HX := Lib.hid h5
    clear h5
    go_wp2_with (fail)
    exact bodyPost_ret (results_cellV rfl rfl (sTo_load (HX.out.swap2.blk (List.mem_cons_self ..)) ⟨p, f, l, i0, 4 + (a : Int), 4 + (b : Int), r, 1 + (u : Int), 1 + (t : Int)⟩)) rfl ⟨rfl, (HX.out.swap2.sTo ⟨p, f, l, i0, 4 + (a : Int), 4 + (b : Int), r, 1 + (u : Int), 1 + (t : Int)⟩).drop.drop.drop⟩
end Go.Proofs.Ytnigpledibhiaaa
