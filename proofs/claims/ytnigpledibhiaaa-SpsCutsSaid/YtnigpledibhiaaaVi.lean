/- SpsCuts. -/
import Derived.Test.YtnigpledibhiaaaVd
import Derived.Test.YtnigpledibhiaaaUt
import Derived.Deep.CutBlock
namespace Go.Proofs.Ytnigpledibhiaaa
open Go.RowKit
set_option linter.unusedVariables false
set_option maxRecDepth 100000
set_option linter.unusedSimpArgs false

theorem cells6 {w : World} {q : Nat} {a b c d e f : Value} {t : TypeId} (h : w.heap[q]? = some (.cells #[a, b, c, d, e, f] t (0, 0))) : w.cell? ⟨q, 0, none⟩ = some a ∧ w.cell? ⟨q, 1, none⟩ = some b ∧ w.cell? ⟨q, 2, none⟩ = some c ∧ w.cell? ⟨q, 3, none⟩ = some d ∧ w.cell? ⟨q, 4, none⟩ = some e ∧ w.cell? ⟨q, 5, none⟩ = some f := by
  refine ⟨?_, ?_, ?_, ?_, ?_, ?_⟩ <;> simp [World.cell?, h]
theorem okS_not {x : SpsD} (h : ¬ (x.id ≤ 31 ∧ x.fb ≤ 16 ∧ x.pb ≤ 16 ∧ x.refs ≤ 16 ∧ x.w ≤ 128 ∧ x.h ≤ 128)) : okS x = false := by
  cases c : okS x with
  | false => rfl
  | true => have := okS_bounds c; exact absurd (by omega) h
theorem no_pay {x : SpsD} (h : okS x = false) : sPay x = ⟨#[]⟩ ∧ sErr x = 3 := ⟨sPay_no h, by unfold sErr; rw [h]; rfl⟩

set_option maxHeartbeats 8000000 in
theorem scuts_walk (n0 n1 n2 n3 n4 n5 n6 n7 : Int) (a1 : In64 n1) (a2 : In64 n2) (a3 : In64 n3) (a4 : In64 n4) (a5 : In64 n5) (a6 : In64 n6) (at_ which : Int) (b8 : In64 at_) (b9 : In64 which) (W : World) :
    Calls Try.prog 8 #[.agg #[.int .i64 n0, .int .i64 n1, .int .i64 n2, .int .i64 n3, .int .i64 n4, .int .i64 n5, .int .i64 n6, .int .i64 n7], .int .i64 at_, .int .i64 which] W fun e w' => e = .returned (.bool true) ∧ Below W.heap.size W w' := by
  obtain ⟨x, okx, ux, VX⟩ := valid_any n0 n1 n2 n3 n4 n5 n6 n7 a1 a2 a3 a4 a5 a6
  obtain ⟨z1, z2⟩ := sPay_size okx ux
  obtain ⟨N, hN⟩ : ∃ N, (sPay x).size = N := ⟨_, rfl⟩
  obtain ⟨c, hc, lc⟩ := emod_nat at_ N (by omega)
  obtain ⟨r, hr, lr⟩ := emod_nat at_ 1000 (by omega)
  obtain ⟨k, hk, lk⟩ := emod_nat which 6 (by omega)
  obtain ⟨d, hd, ld⟩ := u8_mod at_
  have hcut : (sDec ((sPay x).extract 0 c)).2 = 4 ∨ (sDec ((sPay x).extract 0 c)).2 = 5 := sDec_cut okx ux (sbits_cut (sPay x) c) (by rw [ByteArray.size_extract]; omega)
  have hmore : (sDec (sPay x ++ ⟨#[UInt8.ofNat d]⟩)).2 = 4 := sDec_more okx ux (sbits_app' _ _) (by rw [app_size']; show _ < _ + 1; omega)
  obtain ⟨x1, hx1⟩ : ∃ y, (sDec ((sPay x).extract 0 c)).1 = y := ⟨_, rfl⟩
  obtain ⟨e1, he1⟩ : ∃ y, (sDec ((sPay x).extract 0 c)).2 = y := ⟨_, rfl⟩
  obtain ⟨x2, hx2⟩ : ∃ y, (sDec (sPay x ++ ⟨#[UInt8.ofNat d]⟩)).1 = y := ⟨_, rfl⟩
  have hD1 : sDec ((sPay x).extract 0 c) = (x1, e1) := by rw [← hx1, ← he1]
  have hD2 : sDec (sPay x ++ ⟨#[UInt8.ofNat d]⟩) = (x2, 4) := by rw [← hx2, ← hmore]
  rw [he1] at hcut
  have s48a : ((sPay x).extract 0 c).size ≤ 2 ^ 48 := by rw [ByteArray.size_extract]; omega
  have s48b : (sPay x ++ ⟨#[UInt8.ofNat d]⟩).size ≤ 2 ^ 48 := by rw [app_size']; show _ + 1 ≤ _; omega
  obtain ⟨S, hS⟩ : ∃ T, sPay x = T := ⟨_, rfl⟩
  obtain ⟨D, hDD⟩ : ∃ D : ByteArray, (⟨#[UInt8.ofNat d]⟩ : ByteArray) = D := ⟨_, rfl⟩
  rw [hS] at hD1 hD2 s48a s48b hN z1 z2
  rw [hDD] at hD2 s48b
  have hcv : ∀ (w : World) (o : Obj), (convert 36 9 (.slice (some ⟨w.heap.size + 1, 0, none⟩) 1 1)).run Try.prog ((w.alloc o).alloc (.cells #[.int .u8 (d : Int)] 5 (0, 0))) = .ok (.string D) ((w.alloc o).alloc (.cells #[.int .u8 (d : Int)] 5 (0, 0))) := fun w o => by
    rw [← hDD]
    refine conv_one Try.underlying36 Try.underlying5 Try.underlying9 _ (c := d) rfl ld ?_ rfl
    have hb : ((w.alloc o).alloc (.cells #[.int .u8 (d : Int)] 5 (0, 0))).heap[w.heap.size + 1]? = some (.cells #[.int .u8 (d : Int)] 5 (0, 0)) := by
      rw [← World.size_alloc w o]
      show ((w.alloc o).heap.push _)[(w.alloc o).heap.size]? = _
      exact Array.getElem?_push_size
    generalize ((w.alloc o).alloc (.cells #[.int .u8 (d : Int)] 5 (0, 0))) = v at hb ⊢
    exact (cells_solo hb).1
  have K1 := Lib.hid (And.intro hS (show sErr x = 0 by unfold sErr; rw [if_pos okx]))
  have K2 := Lib.hid (And.intro s48a hD1)
  have K3 := Lib.hid (And.intro s48b hD2)
  have M1 := Lib.hid (show (1 ≤ (N : Int) ∧ (N : Int) ≤ 1048576) ∧ In64 at_ ∧ at_ % (N : Int) = (c : Int) from ⟨by omega, b8, hc⟩)
  have M2 := Lib.hid (show In64 at_ ∧ at_ % 1000 = (r : Int) from ⟨b8, hr⟩)
  have M3 := Lib.hid (show In64 which ∧ which % 6 = (k : Int) from ⟨b9, hk⟩)
  have HV := Lib.hid VX
  have HU := Lib.hid ux
  have HC := Lib.hid hcut
  have H := Lib.hid (Hp.start W)
  have cN : c ≤ S.size := by omega
  have sz1 : ((S.size : Int) == 0) = false := beq_eq_false_iff_ne.2 (by omega)
  have sz2 : (S.size == 0) = false := beq_eq_false_iff_ne.2 (by omega)
  have sz3 : ¬ S.size = 0 := by omega
  have dsz : D.size = 1 := by rw [← hDD]; rfl
  have sz4 : S.size ≤ 12 := by omega
  have BX := Lib.hid (okS_bounds okx)
  clear hS hDD hD1 hD2 hcut hmore hx1 he1 hx2 s48a s48b VX ux okx b8 b9 hc hr hk a1 a2 a3 a4 a5 a6 z1 z2 lc
  have HN := Lib.hid hN
  obtain ⟨pr, fl, le, id, fb, pb, refs, w0, h0⟩ := x
  obtain ⟨pr1, fl1, le1, id1, fb1, pb1, refs1, w01, h01⟩ := x1
  obtain ⟨pr2, fl2, le2, id2, fb2, pb2, refs2, w02, h02⟩ := x2
  have hNz : (S.size : Int) = (N : Int) := by omega
  clear hN
  go_enter Try.func8, Try.ntmps8
  go_upto_region 2 with (first | (go_at_call 17; (with_reducible refine (HV.out _ _ _ _ (H.out.alloc (n8Ob n0 n1 n2 n3 n4 n5 n6 n7))).mono ?_); rintro e w1 ⟨rfl, h1⟩))
  have h2 := h1.alloc (sOb ⟨pr, fl, le, id, fb, pb, refs, w0, h0⟩)
  clear h1
  generalize (w1.alloc (.cells #[.int .u8 pr, .int .u8 fl, .int .u8 le, .int .i64 id, .int .i64 fb, .int .i64 pb, .int .i64 refs, .int .i64 w0, .int .i64 h0] 23 (0, 0))) = w2 at h2 ⊢
  generalize w1.heap.size = k1 at *
  obtain ⟨s0, s1, s2, s3, s4, s5, s6, s7, s8⟩ := sOb_cells (x := ⟨pr, fl, le, id, fb, pb, refs, w0, h0⟩) (h2.blk (List.mem_cons_self ..))
  clear hNz
  go_upto_region 5 with (first | (go_at_call 9; (with_reducible refine (senc_as h2 ⟨pr, fl, le, id, fb, pb, refs, w0, h0⟩ HU.out K1.out).mono ?_); rintro e w3 ⟨rfl, h3⟩))
  clear s0 s1 s2 s3 s4 s5 s6 s7 s8
  clear h2
  have hNz : (S.size : Int) = (N : Int) := by have := HN.out; omega
  go_upto_region 7 with (first | (go_at_call 18; (with_reducible refine (vmod_as M1.out.1 M1.out.2.1 M1.out.2.2 _).mono ?_); rintro e wx ⟨rfl, rfl⟩) | (go_at_call 14; (with_reducible refine (sdec_as h3 _ K2.out.1 K2.out.2).mono ?_); rintro e w4 ⟨rfl, h4⟩) | (go_at_call 14; (with_reducible refine (sdec_as ((h4.lost _).lost _) _ K3.out.1 K3.out.2).mono ?_); rintro e w5 ⟨rfl, h5⟩))
  have h6 := (h5.lost (sOb ⟨pr2, fl2, le2, id2, fb2, pb2, refs2, w02, h02⟩))
  clear hcv h3 h4 h5 dsz sz1 sz2 sz3 sz4 cN hNz
  generalize (w5.alloc (.cells #[.int .u8 pr2, .int .u8 fl2, .int .u8 le2, .int .i64 id2, .int .i64 fb2, .int .i64 pb2, .int .i64 refs2, .int .i64 w02, .int .i64 h02] 23 (0, 0))) = w6 at h6 ⊢
  have HH := Lib.hid h6
  clear h6
  rcases HC.out with rfl | rfl
  all_goals
    go_upto_region 12 with (first | (go_at_call 18; (with_reducible refine (vmod_as ⟨by decide, by decide⟩ M3.out.1 M3.out.2 _).mono ?_); rintro e wx ⟨rfl, rfl⟩))
    have h7 := (HH.out.alloc (.cells #[.pointer (some ⟨k1, 3, none⟩), .pointer (some ⟨k1, 4, none⟩), .pointer (some ⟨k1, 5, none⟩), .pointer (some ⟨k1, 6, none⟩), .pointer (some ⟨k1, 7, none⟩), .pointer (some ⟨k1, 8, none⟩)] 43 (0, 0))).alloc (.cells #[.int .i64 32, .int .i64 17, .int .i64 17, .int .i64 17, .int .i64 129, .int .i64 129] 3 (0, 0))
    simp only [World.size_alloc] at h7
    clear HH
    generalize ((w6.alloc (.cells #[.pointer (some ⟨k1, 3, none⟩), .pointer (some ⟨k1, 4, none⟩), .pointer (some ⟨k1, 5, none⟩), .pointer (some ⟨k1, 6, none⟩), .pointer (some ⟨k1, 7, none⟩), .pointer (some ⟨k1, 8, none⟩)] 43 (0, 0))).alloc (.cells #[.int .i64 32, .int .i64 17, .int .i64 17, .int .i64 17, .int .i64 129, .int .i64 129] 3 (0, 0))) = w7 at h7 ⊢
    generalize w6.heap.size = q at *
    have k6 : k = 0 ∨ k = 1 ∨ k = 2 ∨ k = 3 ∨ k = 4 ∨ k = 5 := by omega
    obtain ⟨p0, p1, p2, p3, p4, p5⟩ := cells6 (h7.blk mem1)
    obtain ⟨g0, g1, g2, g3, g4, g5⟩ := cells6 (h7.blk (List.mem_cons_self ..))
    obtain ⟨s0, s1, s2, s3, s4, s5, s6, s7, s8⟩ := sOb_cells (x := ⟨pr, fl, le, id, fb, pb, refs, w0, h0⟩) (h7.blk mem2)
    obtain ⟨f0, f1, f2, f3, f4, f5, f6, f7, f8⟩ := sOb_free (x := ⟨pr, fl, le, id, fb, pb, refs, w0, h0⟩) (h7.blk mem2)
    have H7 := Lib.hid h7
    clear h7
    rcases k6 with rfl | rfl | rfl | rfl | rfl | rfl
    · clear s0 s1 s2 s4 s5 s6 s7 s8 f0 f1 f2 f4 f5 f6 f7 f8 p1 p2 p3 p4 p5 g1 g2 g3 g4 g5
      have wr : IntKind.i64.wrap (32 + (r : Int)) = 32 + (r : Int) := by rw [IntKind.wrap_i64]; omega
      refine wp_region_still_tail 12 (by kernel_rfl) (by kernel_rfl) ?_
      simp only [List.take_succ_cons, List.take_zero, List.drop_succ_cons, List.drop_zero]
      iterate 9 still_step
      still_call ((vmod_as ⟨by decide, by decide⟩ M2.out.1 M2.out.2 _).mono fun _ _ ⟨he, hw⟩ => ⟨he, hw.symm⟩)
      repeat still_step
      try refine wpStill_nil ?_
      change wpList _ _ _ _ _ w7.drew
      go_upto_region 13 with (fail)
      have h8 : Hp W (w7.setCell ⟨k1, 3, none⟩ (.int .i64 (32 + (r : Int)))).drew [] ((q + 1, .cells #[.int .i64 32, .int .i64 17, .int .i64 17, .int .i64 17, .int .i64 129, .int .i64 129] 3 (0, 0)) :: (q, .cells #[.pointer (some ⟨k1, 3, none⟩), .pointer (some ⟨k1, 4, none⟩), .pointer (some ⟨k1, 5, none⟩), .pointer (some ⟨k1, 6, none⟩), .pointer (some ⟨k1, 7, none⟩), .pointer (some ⟨k1, 8, none⟩)] 43 (0, 0)) :: (k1, sOb ⟨pr, fl, le, (32 + (r : Int)), fb, pb, refs, w0, h0⟩) :: (W.heap.size, n8Ob n0 n1 n2 n3 n4 n5 n6 n7) :: []) := (H7.out.set 2 rfl 3 _).drew
      clear H7 s3 f3 p0 g0
      generalize (w7.setCell ⟨k1, 3, none⟩ (.int .i64 (32 + (r : Int)))).drew = w8 at h8 ⊢
      have U2 : Hid (okU ⟨pr, fl, le, (32 + (r : Int)), fb, pb, refs, w0, h0⟩) := Lib.hid HU.out
      have NP := Lib.hid (no_pay (x := ⟨pr, fl, le, (32 + (r : Int)), fb, pb, refs, w0, h0⟩) (okS_not (by simp only; omega)))
      obtain ⟨s0, s1, s2, s3, s4, s5, s6, s7, s8⟩ := sOb_cells (x := ⟨pr, fl, le, (32 + (r : Int)), fb, pb, refs, w0, h0⟩) (h8.blk mem2)
      go_wp2_with (first | (go_at_call 9; (with_reducible refine (senc_as h8 ⟨pr, fl, le, (32 + (r : Int)), fb, pb, refs, w0, h0⟩ U2.out NP.out).mono ?_); rintro e w9 ⟨rfl, h9⟩; clear s0 s1 s2 s3 s4 s5 s6 s7 s8; obtain ⟨s0, s1, s2, s3, s4, s5, s6, s7, s8⟩ := sOb_cells (x := ⟨pr, fl, le, (32 + (r : Int)), fb, pb, refs, w0, h0⟩) (h9.blk mem2)) | (go_at_call 11; (with_reducible refine (scheck_as h9 ⟨pr, fl, le, (32 + (r : Int)), fb, pb, refs, w0, h0⟩ NP.out.2).mono ?_); rintro e w10 ⟨rfl, h10⟩) | (go_at_call 13; (with_reducible refine (awake_any6 h10).mono ?_); rintro e w11 ⟨rfl, h11⟩))
      exact bodyPost_ret (results_tmp rfl _ _ _) rfl ⟨rfl, h11.below⟩
    · clear s0 s1 s2 s3 s5 s6 s7 s8 f0 f1 f2 f3 f5 f6 f7 f8 p0 p2 p3 p4 p5 g0 g2 g3 g4 g5
      have wr : IntKind.i64.wrap (17 + (r : Int)) = 17 + (r : Int) := by rw [IntKind.wrap_i64]; omega
      refine wp_region_still_tail 12 (by kernel_rfl) (by kernel_rfl) ?_
      simp only [List.take_succ_cons, List.take_zero, List.drop_succ_cons, List.drop_zero]
      iterate 9 still_step
      still_call ((vmod_as ⟨by decide, by decide⟩ M2.out.1 M2.out.2 _).mono fun _ _ ⟨he, hw⟩ => ⟨he, hw.symm⟩)
      repeat still_step
      try refine wpStill_nil ?_
      change wpList _ _ _ _ _ w7.drew
      go_upto_region 13 with (fail)
      have h8 : Hp W (w7.setCell ⟨k1, 4, none⟩ (.int .i64 (17 + (r : Int)))).drew [] ((q + 1, .cells #[.int .i64 32, .int .i64 17, .int .i64 17, .int .i64 17, .int .i64 129, .int .i64 129] 3 (0, 0)) :: (q, .cells #[.pointer (some ⟨k1, 3, none⟩), .pointer (some ⟨k1, 4, none⟩), .pointer (some ⟨k1, 5, none⟩), .pointer (some ⟨k1, 6, none⟩), .pointer (some ⟨k1, 7, none⟩), .pointer (some ⟨k1, 8, none⟩)] 43 (0, 0)) :: (k1, sOb ⟨pr, fl, le, id, (17 + (r : Int)), pb, refs, w0, h0⟩) :: (W.heap.size, n8Ob n0 n1 n2 n3 n4 n5 n6 n7) :: []) := (H7.out.set 2 rfl 4 _).drew
      clear H7 s4 f4 p1 g1
      generalize (w7.setCell ⟨k1, 4, none⟩ (.int .i64 (17 + (r : Int)))).drew = w8 at h8 ⊢
      have U2 : Hid (okU ⟨pr, fl, le, id, (17 + (r : Int)), pb, refs, w0, h0⟩) := Lib.hid HU.out
      have NP := Lib.hid (no_pay (x := ⟨pr, fl, le, id, (17 + (r : Int)), pb, refs, w0, h0⟩) (okS_not (by simp only; omega)))
      obtain ⟨s0, s1, s2, s3, s4, s5, s6, s7, s8⟩ := sOb_cells (x := ⟨pr, fl, le, id, (17 + (r : Int)), pb, refs, w0, h0⟩) (h8.blk mem2)
      go_wp2_with (first | (go_at_call 9; (with_reducible refine (senc_as h8 ⟨pr, fl, le, id, (17 + (r : Int)), pb, refs, w0, h0⟩ U2.out NP.out).mono ?_); rintro e w9 ⟨rfl, h9⟩; clear s0 s1 s2 s3 s4 s5 s6 s7 s8; obtain ⟨s0, s1, s2, s3, s4, s5, s6, s7, s8⟩ := sOb_cells (x := ⟨pr, fl, le, id, (17 + (r : Int)), pb, refs, w0, h0⟩) (h9.blk mem2)) | (go_at_call 11; (with_reducible refine (scheck_as h9 ⟨pr, fl, le, id, (17 + (r : Int)), pb, refs, w0, h0⟩ NP.out.2).mono ?_); rintro e w10 ⟨rfl, h10⟩) | (go_at_call 13; (with_reducible refine (awake_any6 h10).mono ?_); rintro e w11 ⟨rfl, h11⟩))
      exact bodyPost_ret (results_tmp rfl _ _ _) rfl ⟨rfl, h11.below⟩
    · clear s0 s1 s2 s3 s4 s6 s7 s8 f0 f1 f2 f3 f4 f6 f7 f8 p0 p1 p3 p4 p5 g0 g1 g3 g4 g5
      have wr : IntKind.i64.wrap (17 + (r : Int)) = 17 + (r : Int) := by rw [IntKind.wrap_i64]; omega
      refine wp_region_still_tail 12 (by kernel_rfl) (by kernel_rfl) ?_
      simp only [List.take_succ_cons, List.take_zero, List.drop_succ_cons, List.drop_zero]
      iterate 9 still_step
      still_call ((vmod_as ⟨by decide, by decide⟩ M2.out.1 M2.out.2 _).mono fun _ _ ⟨he, hw⟩ => ⟨he, hw.symm⟩)
      repeat still_step
      try refine wpStill_nil ?_
      change wpList _ _ _ _ _ w7.drew
      go_upto_region 13 with (fail)
      have h8 : Hp W (w7.setCell ⟨k1, 5, none⟩ (.int .i64 (17 + (r : Int)))).drew [] ((q + 1, .cells #[.int .i64 32, .int .i64 17, .int .i64 17, .int .i64 17, .int .i64 129, .int .i64 129] 3 (0, 0)) :: (q, .cells #[.pointer (some ⟨k1, 3, none⟩), .pointer (some ⟨k1, 4, none⟩), .pointer (some ⟨k1, 5, none⟩), .pointer (some ⟨k1, 6, none⟩), .pointer (some ⟨k1, 7, none⟩), .pointer (some ⟨k1, 8, none⟩)] 43 (0, 0)) :: (k1, sOb ⟨pr, fl, le, id, fb, (17 + (r : Int)), refs, w0, h0⟩) :: (W.heap.size, n8Ob n0 n1 n2 n3 n4 n5 n6 n7) :: []) := (H7.out.set 2 rfl 5 _).drew
      clear H7 s5 f5 p2 g2
      generalize (w7.setCell ⟨k1, 5, none⟩ (.int .i64 (17 + (r : Int)))).drew = w8 at h8 ⊢
      have U2 : Hid (okU ⟨pr, fl, le, id, fb, (17 + (r : Int)), refs, w0, h0⟩) := Lib.hid HU.out
      have NP := Lib.hid (no_pay (x := ⟨pr, fl, le, id, fb, (17 + (r : Int)), refs, w0, h0⟩) (okS_not (by simp only; omega)))
      obtain ⟨s0, s1, s2, s3, s4, s5, s6, s7, s8⟩ := sOb_cells (x := ⟨pr, fl, le, id, fb, (17 + (r : Int)), refs, w0, h0⟩) (h8.blk mem2)
      go_wp2_with (first | (go_at_call 9; (with_reducible refine (senc_as h8 ⟨pr, fl, le, id, fb, (17 + (r : Int)), refs, w0, h0⟩ U2.out NP.out).mono ?_); rintro e w9 ⟨rfl, h9⟩; clear s0 s1 s2 s3 s4 s5 s6 s7 s8; obtain ⟨s0, s1, s2, s3, s4, s5, s6, s7, s8⟩ := sOb_cells (x := ⟨pr, fl, le, id, fb, (17 + (r : Int)), refs, w0, h0⟩) (h9.blk mem2)) | (go_at_call 11; (with_reducible refine (scheck_as h9 ⟨pr, fl, le, id, fb, (17 + (r : Int)), refs, w0, h0⟩ NP.out.2).mono ?_); rintro e w10 ⟨rfl, h10⟩) | (go_at_call 13; (with_reducible refine (awake_any6 h10).mono ?_); rintro e w11 ⟨rfl, h11⟩))
      exact bodyPost_ret (results_tmp rfl _ _ _) rfl ⟨rfl, h11.below⟩
    · clear s0 s1 s2 s3 s4 s5 s7 s8 f0 f1 f2 f3 f4 f5 f7 f8 p0 p1 p2 p4 p5 g0 g1 g2 g4 g5
      have wr : IntKind.i64.wrap (17 + (r : Int)) = 17 + (r : Int) := by rw [IntKind.wrap_i64]; omega
      refine wp_region_still_tail 12 (by kernel_rfl) (by kernel_rfl) ?_
      simp only [List.take_succ_cons, List.take_zero, List.drop_succ_cons, List.drop_zero]
      iterate 9 still_step
      still_call ((vmod_as ⟨by decide, by decide⟩ M2.out.1 M2.out.2 _).mono fun _ _ ⟨he, hw⟩ => ⟨he, hw.symm⟩)
      repeat still_step
      try refine wpStill_nil ?_
      change wpList _ _ _ _ _ w7.drew
      go_upto_region 13 with (fail)
      have h8 : Hp W (w7.setCell ⟨k1, 6, none⟩ (.int .i64 (17 + (r : Int)))).drew [] ((q + 1, .cells #[.int .i64 32, .int .i64 17, .int .i64 17, .int .i64 17, .int .i64 129, .int .i64 129] 3 (0, 0)) :: (q, .cells #[.pointer (some ⟨k1, 3, none⟩), .pointer (some ⟨k1, 4, none⟩), .pointer (some ⟨k1, 5, none⟩), .pointer (some ⟨k1, 6, none⟩), .pointer (some ⟨k1, 7, none⟩), .pointer (some ⟨k1, 8, none⟩)] 43 (0, 0)) :: (k1, sOb ⟨pr, fl, le, id, fb, pb, (17 + (r : Int)), w0, h0⟩) :: (W.heap.size, n8Ob n0 n1 n2 n3 n4 n5 n6 n7) :: []) := (H7.out.set 2 rfl 6 _).drew
      clear H7 s6 f6 p3 g3
      generalize (w7.setCell ⟨k1, 6, none⟩ (.int .i64 (17 + (r : Int)))).drew = w8 at h8 ⊢
      have U2 : Hid (okU ⟨pr, fl, le, id, fb, pb, (17 + (r : Int)), w0, h0⟩) := Lib.hid HU.out
      have NP := Lib.hid (no_pay (x := ⟨pr, fl, le, id, fb, pb, (17 + (r : Int)), w0, h0⟩) (okS_not (by simp only; omega)))
      obtain ⟨s0, s1, s2, s3, s4, s5, s6, s7, s8⟩ := sOb_cells (x := ⟨pr, fl, le, id, fb, pb, (17 + (r : Int)), w0, h0⟩) (h8.blk mem2)
      go_wp2_with (first | (go_at_call 9; (with_reducible refine (senc_as h8 ⟨pr, fl, le, id, fb, pb, (17 + (r : Int)), w0, h0⟩ U2.out NP.out).mono ?_); rintro e w9 ⟨rfl, h9⟩; clear s0 s1 s2 s3 s4 s5 s6 s7 s8; obtain ⟨s0, s1, s2, s3, s4, s5, s6, s7, s8⟩ := sOb_cells (x := ⟨pr, fl, le, id, fb, pb, (17 + (r : Int)), w0, h0⟩) (h9.blk mem2)) | (go_at_call 11; (with_reducible refine (scheck_as h9 ⟨pr, fl, le, id, fb, pb, (17 + (r : Int)), w0, h0⟩ NP.out.2).mono ?_); rintro e w10 ⟨rfl, h10⟩) | (go_at_call 13; (with_reducible refine (awake_any6 h10).mono ?_); rintro e w11 ⟨rfl, h11⟩))
      exact bodyPost_ret (results_tmp rfl _ _ _) rfl ⟨rfl, h11.below⟩
    · clear s0 s1 s2 s3 s4 s5 s6 s8 f0 f1 f2 f3 f4 f5 f6 f8 p0 p1 p2 p3 p5 g0 g1 g2 g3 g5
      have wr : IntKind.i64.wrap (129 + (r : Int)) = 129 + (r : Int) := by rw [IntKind.wrap_i64]; omega
      refine wp_region_still_tail 12 (by kernel_rfl) (by kernel_rfl) ?_
      simp only [List.take_succ_cons, List.take_zero, List.drop_succ_cons, List.drop_zero]
      iterate 9 still_step
      still_call ((vmod_as ⟨by decide, by decide⟩ M2.out.1 M2.out.2 _).mono fun _ _ ⟨he, hw⟩ => ⟨he, hw.symm⟩)
      repeat still_step
      try refine wpStill_nil ?_
      change wpList _ _ _ _ _ w7.drew
      go_upto_region 13 with (fail)
      have h8 : Hp W (w7.setCell ⟨k1, 7, none⟩ (.int .i64 (129 + (r : Int)))).drew [] ((q + 1, .cells #[.int .i64 32, .int .i64 17, .int .i64 17, .int .i64 17, .int .i64 129, .int .i64 129] 3 (0, 0)) :: (q, .cells #[.pointer (some ⟨k1, 3, none⟩), .pointer (some ⟨k1, 4, none⟩), .pointer (some ⟨k1, 5, none⟩), .pointer (some ⟨k1, 6, none⟩), .pointer (some ⟨k1, 7, none⟩), .pointer (some ⟨k1, 8, none⟩)] 43 (0, 0)) :: (k1, sOb ⟨pr, fl, le, id, fb, pb, refs, (129 + (r : Int)), h0⟩) :: (W.heap.size, n8Ob n0 n1 n2 n3 n4 n5 n6 n7) :: []) := (H7.out.set 2 rfl 7 _).drew
      clear H7 s7 f7 p4 g4
      generalize (w7.setCell ⟨k1, 7, none⟩ (.int .i64 (129 + (r : Int)))).drew = w8 at h8 ⊢
      have U2 : Hid (okU ⟨pr, fl, le, id, fb, pb, refs, (129 + (r : Int)), h0⟩) := Lib.hid HU.out
      have NP := Lib.hid (no_pay (x := ⟨pr, fl, le, id, fb, pb, refs, (129 + (r : Int)), h0⟩) (okS_not (by simp only; omega)))
      obtain ⟨s0, s1, s2, s3, s4, s5, s6, s7, s8⟩ := sOb_cells (x := ⟨pr, fl, le, id, fb, pb, refs, (129 + (r : Int)), h0⟩) (h8.blk mem2)
      go_wp2_with (first | (go_at_call 9; (with_reducible refine (senc_as h8 ⟨pr, fl, le, id, fb, pb, refs, (129 + (r : Int)), h0⟩ U2.out NP.out).mono ?_); rintro e w9 ⟨rfl, h9⟩; clear s0 s1 s2 s3 s4 s5 s6 s7 s8; obtain ⟨s0, s1, s2, s3, s4, s5, s6, s7, s8⟩ := sOb_cells (x := ⟨pr, fl, le, id, fb, pb, refs, (129 + (r : Int)), h0⟩) (h9.blk mem2)) | (go_at_call 11; (with_reducible refine (scheck_as h9 ⟨pr, fl, le, id, fb, pb, refs, (129 + (r : Int)), h0⟩ NP.out.2).mono ?_); rintro e w10 ⟨rfl, h10⟩) | (go_at_call 13; (with_reducible refine (awake_any6 h10).mono ?_); rintro e w11 ⟨rfl, h11⟩))
      exact bodyPost_ret (results_tmp rfl _ _ _) rfl ⟨rfl, h11.below⟩
    · clear s0 s1 s2 s3 s4 s5 s6 s7 f0 f1 f2 f3 f4 f5 f6 f7 p0 p1 p2 p3 p4 g0 g1 g2 g3 g4
      have wr : IntKind.i64.wrap (129 + (r : Int)) = 129 + (r : Int) := by rw [IntKind.wrap_i64]; omega
      refine wp_region_still_tail 12 (by kernel_rfl) (by kernel_rfl) ?_
      simp only [List.take_succ_cons, List.take_zero, List.drop_succ_cons, List.drop_zero]
      iterate 9 still_step
      still_call ((vmod_as ⟨by decide, by decide⟩ M2.out.1 M2.out.2 _).mono fun _ _ ⟨he, hw⟩ => ⟨he, hw.symm⟩)
      repeat still_step
      try refine wpStill_nil ?_
      change wpList _ _ _ _ _ w7.drew
      go_upto_region 13 with (fail)
      have h8 : Hp W (w7.setCell ⟨k1, 8, none⟩ (.int .i64 (129 + (r : Int)))).drew [] ((q + 1, .cells #[.int .i64 32, .int .i64 17, .int .i64 17, .int .i64 17, .int .i64 129, .int .i64 129] 3 (0, 0)) :: (q, .cells #[.pointer (some ⟨k1, 3, none⟩), .pointer (some ⟨k1, 4, none⟩), .pointer (some ⟨k1, 5, none⟩), .pointer (some ⟨k1, 6, none⟩), .pointer (some ⟨k1, 7, none⟩), .pointer (some ⟨k1, 8, none⟩)] 43 (0, 0)) :: (k1, sOb ⟨pr, fl, le, id, fb, pb, refs, w0, (129 + (r : Int))⟩) :: (W.heap.size, n8Ob n0 n1 n2 n3 n4 n5 n6 n7) :: []) := (H7.out.set 2 rfl 8 _).drew
      clear H7 s8 f8 p5 g5
      generalize (w7.setCell ⟨k1, 8, none⟩ (.int .i64 (129 + (r : Int)))).drew = w8 at h8 ⊢
      have U2 : Hid (okU ⟨pr, fl, le, id, fb, pb, refs, w0, (129 + (r : Int))⟩) := Lib.hid HU.out
      have NP := Lib.hid (no_pay (x := ⟨pr, fl, le, id, fb, pb, refs, w0, (129 + (r : Int))⟩) (okS_not (by simp only; omega)))
      obtain ⟨s0, s1, s2, s3, s4, s5, s6, s7, s8⟩ := sOb_cells (x := ⟨pr, fl, le, id, fb, pb, refs, w0, (129 + (r : Int))⟩) (h8.blk mem2)
      go_wp2_with (first | (go_at_call 9; (with_reducible refine (senc_as h8 ⟨pr, fl, le, id, fb, pb, refs, w0, (129 + (r : Int))⟩ U2.out NP.out).mono ?_); rintro e w9 ⟨rfl, h9⟩; clear s0 s1 s2 s3 s4 s5 s6 s7 s8; obtain ⟨s0, s1, s2, s3, s4, s5, s6, s7, s8⟩ := sOb_cells (x := ⟨pr, fl, le, id, fb, pb, refs, w0, (129 + (r : Int))⟩) (h9.blk mem2)) | (go_at_call 11; (with_reducible refine (scheck_as h9 ⟨pr, fl, le, id, fb, pb, refs, w0, (129 + (r : Int))⟩ NP.out.2).mono ?_); rintro e w10 ⟨rfl, h10⟩) | (go_at_call 13; (with_reducible refine (awake_any6 h10).mono ?_); rintro e w11 ⟨rfl, h11⟩))
      exact bodyPost_ret (results_tmp rfl _ _ _) rfl ⟨rfl, h11.below⟩
end Go.Proofs.Ytnigpledibhiaaa
