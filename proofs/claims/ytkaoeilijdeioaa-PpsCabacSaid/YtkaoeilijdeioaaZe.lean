/- Valid (chapter 07). -/
import Derived.Test.YtkaoeilijdeioaaZd
import Derived.Deep.RegionHeld3
import Derived.Deep.Cut
import Derived.Deep.CutRange
import Derived.Deep.CutBlock
import Derived.StillTailTactics
namespace Go.Proofs.Ytkaoeilijdeioaa
open Go.RowKit
set_option linter.unusedVariables false
set_option maxRecDepth 100000
set_option linter.unusedSimpArgs false

@[reducible] def n8Ob (n0 n1 n2 n3 n4 n5 n6 n7 : Int) : Obj := .cells #[.int .i64 n0, .int .i64 n1, .int .i64 n2, .int .i64 n3, .int .i64 n4, .int .i64 n5, .int .i64 n6, .int .i64 n7] 38 (0, 0)
theorem n8_cells {w : World} {q : Nat} {n0 n1 n2 n3 n4 n5 n6 n7 : Int} (h : w.heap[q]? = some (n8Ob n0 n1 n2 n3 n4 n5 n6 n7)) : w.cell? ⟨q, 0, none⟩ = some (.int .i64 n0) ∧ w.cell? ⟨q, 1, none⟩ = some (.int .i64 n1) ∧ w.cell? ⟨q, 2, none⟩ = some (.int .i64 n2) ∧ w.cell? ⟨q, 3, none⟩ = some (.int .i64 n3) ∧ w.cell? ⟨q, 4, none⟩ = some (.int .i64 n4) ∧ w.cell? ⟨q, 5, none⟩ = some (.int .i64 n5) ∧ w.cell? ⟨q, 6, none⟩ = some (.int .i64 n6) ∧ w.cell? ⟨q, 7, none⟩ = some (.int .i64 n7) := by
  refine ⟨?_, ?_, ?_, ?_, ?_, ?_, ?_, ?_⟩ <;> simp [World.cell?, h]

@[reducible] def In64 (n : Int) : Prop := -9223372036854775808 ≤ n ∧ n < 9223372036854775808
theorem emod_nat (x : Int) (m : Nat) (hm : 1 ≤ m) : ∃ k : Nat, x % (m : Int) = (k : Int) ∧ k < m := by
  have h1 := Int.emod_nonneg x (show (m : Int) ≠ 0 by omega)
  have h2 := Int.emod_lt_of_pos x (show (0 : Int) < (m : Int) by omega)
  exact ⟨(x % (m : Int)).toNat, by omega, by omega⟩

set_option maxHeartbeats 2000000 in
theorem valid_any (n0 n1 n2 n3 n4 n5 n6 n7 : Int) (b0 : In64 n0) (b1 : In64 n1) (b2 : In64 n2) (b3 : In64 n3) (b4 : In64 n4) (b5 : In64 n5) (b6 : In64 n6) :
    ∃ x : PpsD, okP x = true ∧ ∀ (W w : World) (L : List AObj) (F : List (Nat × Obj)), Hp W w L F → Calls Try.prog 17 #[.agg #[.int .i64 n0, .int .i64 n1, .int .i64 n2, .int .i64 n3, .int .i64 n4, .int .i64 n5, .int .i64 n6, .int .i64 n7]] w fun e w' => e = .returned (pv x) ∧ Hp W w' L F := by
  obtain ⟨i0, h0, l0⟩ := emod_nat n0 32 (by omega)
  obtain ⟨j0, h1, l1⟩ := emod_nat n1 32 (by omega)
  obtain ⟨r, h2, l2⟩ := emod_nat n2 32 (by omega)
  obtain ⟨u, h3, l3⟩ := emod_nat n3 32 (by omega)
  obtain ⟨q, h4, l4⟩ := emod_nat n4 52 (by omega)
  obtain ⟨s, h5, l5⟩ := emod_nat n5 52 (by omega)
  obtain ⟨c, h6, l6⟩ := emod_nat n6 25 (by omega)
  obtain ⟨z1, hz1⟩ : ∃ z : Bool, (Go.bits .and .i64 n7 1 == 1) = z := ⟨_, rfl⟩
  obtain ⟨z2, hz2⟩ : ∃ z : Bool, (Go.bits .and .i64 n7 2 == 2) = z := ⟨_, rfl⟩
  obtain ⟨z4, hz4⟩ : ∃ z : Bool, (Go.bits .and .i64 n7 4 == 4) = z := ⟨_, rfl⟩
  refine ⟨⟨i0, j0, z1, 1 + (r : Int), 1 + (u : Int), (q : Int) - 26, (s : Int) - 26, (c : Int) - 12, z2, z4⟩, ?_, fun W w L F h => ?_⟩
  · unfold okP
    simp only [Bool.and_eq_true, decide_eq_true_eq, Bool.not_eq_true', decide_eq_false_iff_not]
    omega
  have M0 := Lib.hid (show In64 n0 ∧ n0 % 32 = (i0 : Int) from ⟨b0, h0⟩)
  have M1 := Lib.hid (show In64 n1 ∧ n1 % 32 = (j0 : Int) from ⟨b1, h1⟩)
  have M2 := Lib.hid (show In64 n2 ∧ n2 % 32 = (r : Int) from ⟨b2, h2⟩)
  have M3 := Lib.hid (show In64 n3 ∧ n3 % 32 = (u : Int) from ⟨b3, h3⟩)
  have M4 := Lib.hid (show In64 n4 ∧ n4 % 52 = (q : Int) from ⟨b4, h4⟩)
  have M5 := Lib.hid (show In64 n5 ∧ n5 % 52 = (s : Int) from ⟨b5, h5⟩)
  have M6 := Lib.hid (show In64 n6 ∧ n6 % 25 = (c : Int) from ⟨b6, h6⟩)
  have wr : IntKind.i64.wrap (1 + (r : Int)) = 1 + (r : Int) := by rw [IntKind.wrap_i64]; omega
  have wu : IntKind.i64.wrap (1 + (u : Int)) = 1 + (u : Int) := by rw [IntKind.wrap_i64]; omega
  have wq : IntKind.i64.wrap ((q : Int) - 26) = (q : Int) - 26 := by rw [IntKind.wrap_i64]; omega
  have ws : IntKind.i64.wrap ((s : Int) - 26) = (s : Int) - 26 := by rw [IntKind.wrap_i64]; omega
  have wc : IntKind.i64.wrap ((c : Int) - 12) = (c : Int) - 12 := by rw [IntKind.wrap_i64]; omega
  have H := Lib.hid h
  clear h0 h1 h2 h3 h4 h5 h6 h b0 b1 b2 b3 b4 b5 b6 l0 l1 l2 l3 l4 l5 l6
  go_enter Try.func17, Try.ntmps17
  go_upto_region 1 with (fail)
  have h1 := (H.out.alloc (n8Ob n0 n1 n2 n3 n4 n5 n6 n7)).alloc (pOb p00)
  simp only [World.size_alloc] at h1
  generalize ((w.alloc (.cells #[.int .i64 n0, .int .i64 n1, .int .i64 n2, .int .i64 n3, .int .i64 n4, .int .i64 n5, .int .i64 n6, .int .i64 n7] 38 (0, 0))).alloc (.cells #[.int .i64 0, .int .i64 0, .bool false, .int .i64 0, .int .i64 0, .int .i64 0, .int .i64 0, .int .i64 0, .bool false, .bool false] 23 (0, 0))) = w1 at h1 ⊢
  generalize w.heap.size = m at *
  obtain ⟨c0, c1, c2, c3, c4, c5, c6, c7⟩ := n8_cells (h1.blk mem1)
  have HB := Lib.hid h1
  obtain ⟨s0, s1, s2, s3, s4, s5, s6, s7, s8, s9⟩ := pOb_cells (x := p00) (h1.blk (List.mem_cons_self ..))
  obtain ⟨f0, f1, f2, f3, f4, f5, f6, f7, f8, f9⟩ := pOb_free (h1.blk (List.mem_cons_self ..))
  clear h1
  refine wp_region_still_tail 39 (by kernel_rfl) (by kernel_rfl) ?_
  simp only [List.take_succ_cons, List.take_zero, List.drop_succ_cons, List.drop_zero]
  iterate 2 still_step
  still_call ((wmod_as ⟨by decide, by decide⟩ M0.out.1 M0.out.2 _).mono fun _ _ ⟨he, hw⟩ => ⟨he, hw.symm⟩)
  iterate 2 still_step
  still_call ((wmod_as ⟨by decide, by decide⟩ M1.out.1 M1.out.2 _).mono fun _ _ ⟨he, hw⟩ => ⟨he, hw.symm⟩)
  iterate 2 still_step
  still_call ((wmod_as ⟨by decide, by decide⟩ M2.out.1 M2.out.2 _).mono fun _ _ ⟨he, hw⟩ => ⟨he, hw.symm⟩)
  iterate 3 still_step
  still_call ((wmod_as ⟨by decide, by decide⟩ M3.out.1 M3.out.2 _).mono fun _ _ ⟨he, hw⟩ => ⟨he, hw.symm⟩)
  iterate 3 still_step
  still_call ((wmod_as ⟨by decide, by decide⟩ M4.out.1 M4.out.2 _).mono fun _ _ ⟨he, hw⟩ => ⟨he, hw.symm⟩)
  iterate 3 still_step
  still_call ((wmod_as ⟨by decide, by decide⟩ M5.out.1 M5.out.2 _).mono fun _ _ ⟨he, hw⟩ => ⟨he, hw.symm⟩)
  iterate 3 still_step
  still_call ((wmod_as ⟨by decide, by decide⟩ M6.out.1 M6.out.2 _).mono fun _ _ ⟨he, hw⟩ => ⟨he, hw.symm⟩)
  repeat still_step
  try refine wpStill_nil ?_
  change wpList _ _ _ _ _ w1.drew
  go_wp2_with (fail)
  have hl := pTo_load_drew (HB.out.blk (List.mem_cons_self ..)) ⟨i0, j0, z1, 1 + (r : Int), 1 + (u : Int), (q : Int) - 26, (s : Int) - 26, (c : Int) - 12, z2, z4⟩
  exact bodyPost_ret (results_cellW rfl rfl hl) rfl ⟨rfl, ((HB.out.pTo ⟨i0, j0, z1, 1 + (r : Int), 1 + (u : Int), (q : Int) - 26, (s : Int) - 26, (c : Int) - 12, z2, z4⟩).drew).drop.drop⟩
end Go.Proofs.Ytkaoeilijdeioaa
