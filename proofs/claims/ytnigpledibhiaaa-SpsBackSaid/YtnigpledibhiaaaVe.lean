/- SpsBack. -/
import Derived.Test.YtnigpledibhiaaaVd
import Derived.Deep.CutBlock
namespace Go.Proofs.Ytnigpledibhiaaa
open Go.RowKit
set_option linter.unusedVariables false
set_option maxRecDepth 100000
set_option linter.unusedSimpArgs false

set_option maxHeartbeats 4000000 in
theorem sback_walk (n0 n1 n2 n3 n4 n5 n6 n7 : Int) (b1 : In64 n1) (b2 : In64 n2) (b3 : In64 n3) (b4 : In64 n4) (b5 : In64 n5) (b6 : In64 n6) (s : ByteArray) (hs : s.size ≤ maxLen) (W : World) :
    Calls Try.prog 6 #[.agg #[.int .i64 n0, .int .i64 n1, .int .i64 n2, .int .i64 n3, .int .i64 n4, .int .i64 n5, .int .i64 n6, .int .i64 n7], .string s] W fun e w' => e = .returned (.bool true) ∧ Below W.heap.size W w' := by
  obtain ⟨x, ok, okx, V⟩ := valid_any n0 n1 n2 n3 n4 n5 n6 n7 b1 b2 b3 b4 b5 b6
  obtain ⟨z1, z2⟩ := sPay_size ok okx
  have hdec := sDec_enc ok okx
  have her : sErr x = 0 := by unfold sErr; rw [if_pos ok]
  obtain ⟨T, hT⟩ : ∃ T, sPay x = T := ⟨_, rfl⟩
  rw [hT] at z1 z2 hdec
  obtain ⟨M, hM⟩ : ∃ M : Nat, min s.size 20 = M := ⟨_, rfl⟩
  have m1 : M ≤ s.size := by omega
  have m3 : min (s.size : Int) 20 = (M : Int) := by omega
  have m4 : (s.extract 0 M).size ≤ 2 ^ 48 := by rw [ByteArray.size_extract]; omega
  obtain ⟨z, hz⟩ : ∃ z, (sDec (s.extract 0 M)).1 = z := ⟨_, rfl⟩
  obtain ⟨er, he⟩ : ∃ e, (sDec (s.extract 0 M)).2 = e := ⟨_, rfl⟩
  have hD : sDec (s.extract 0 M) = (z, er) := by rw [← hz, ← he]
  have herr : er ≠ 0 → z = s00 := fun h => by rw [← hz]; exact sDec_err (by rw [he]; exact h)
  have hbk : er = 0 → okS z = true ∧ okU z ∧ sPay z = s.extract 0 M := fun h => sDec_back (by rw [hD, h])
  have T48 : T.size ≤ 2 ^ 48 := by omega
  have K1 := Lib.hid (And.intro hT her)
  have K2 := Lib.hid hdec
  have K3 := Lib.hid hD
  have KT := Lib.hid T48
  have KM := Lib.hid m4
  have HV := Lib.hid V
  have HU := Lib.hid okx
  have H := Lib.hid (Hp.start W)
  have E2 : ∀ w, (Op.equalIn 10000 23 (sv x) (sv x)).run Try.prog w = .ok true w := fun w => by rw [sps_eq, decide_eq_true rfl]
  have E3 : ∀ w, (Op.equalIn 10000 23 (sv s00) (sv s00)).run Try.prog w = .ok true w := fun w => by rw [sps_eq, decide_eq_true rfl]
  clear hM hT her hdec hz he hD m4 V ok okx T48 b1 b2 b3 b4 b5 b6
  obtain ⟨pr, fl, le, id, fb, pb, refs, w0, h0⟩ := x
  obtain ⟨pr2, fl2, le2, id2, fb2, pb2, refs2, zw, zh⟩ := z
  have ERR := Lib.hid herr
  have BK := Lib.hid hbk
  clear herr hbk
  go_enter Try.func6, Try.ntmps6
  go_upto_region 3 with (first | (go_at_call 17; (with_reducible refine (HV.out _ _ _ _ (H.out.alloc (n8Ob n0 n1 n2 n3 n4 n5 n6 n7))).mono ?_); rintro e w1 ⟨rfl, h1⟩))
  have h2 := h1.alloc (sOb ⟨pr, fl, le, id, fb, pb, refs, w0, h0⟩)
  clear h1
  generalize (w1.alloc (.cells #[.int .u8 pr, .int .u8 fl, .int .u8 le, .int .i64 id, .int .i64 fb, .int .i64 pb, .int .i64 refs, .int .i64 w0, .int .i64 h0] 23 (0, 0))) = w2 at h2 ⊢
  generalize w1.heap.size = k1 at *
  obtain ⟨s0, s1, s2, s3, s4, s5, s6, s7, s8⟩ := sOb_cells (x := ⟨pr, fl, le, id, fb, pb, refs, w0, h0⟩) (h2.blk (List.mem_cons_self ..))
  go_upto_region 5 with (first | (go_at_call 9; (with_reducible refine (senc_as h2 ⟨pr, fl, le, id, fb, pb, refs, w0, h0⟩ HU.out K1.out).mono ?_); rintro e w3 ⟨rfl, h3⟩) | (go_at_call 14; (with_reducible refine (sdec_as h3 T KT.out K2.out).mono ?_); rintro e w4 ⟨rfl, h4⟩))
  have h5 := h4.alloc (sOb ⟨pr, fl, le, id, fb, pb, refs, w0, h0⟩)
  clear s0 s1 s2 s3 s4 s5 s6 s7 s8
  clear h2 h3 h4
  generalize (w4.alloc (.cells #[.int .u8 pr, .int .u8 fl, .int .u8 le, .int .i64 id, .int .i64 fb, .int .i64 pb, .int .i64 refs, .int .i64 w0, .int .i64 h0] 23 (0, 0))) = w5 at h5 ⊢
  generalize w4.heap.size = k2 at *
  obtain ⟨s0, s1, s2, s3, s4, s5, s6, s7, s8⟩ := sOb_cells (x := ⟨pr, fl, le, id, fb, pb, refs, w0, h0⟩) (h5.blk mem1)
  obtain ⟨t0, t1, t2, t3, t4, t5, t6, t7, t8⟩ := sOb_cells (x := ⟨pr, fl, le, id, fb, pb, refs, w0, h0⟩) (h5.blk (List.mem_cons_self ..))
  go_upto_region 8 with (first | (go_at_call 11; (with_reducible refine (scheck_as h5 ⟨pr, fl, le, id, fb, pb, refs, w0, h0⟩ K1.out.2).mono ?_); rintro e w6 ⟨rfl, h6⟩; clear h5 s0 s1 s2 s3 s4 s5 s6 s7 s8 t0 t1 t2 t3 t4 t5 t6 t7 t8; obtain ⟨s0, s1, s2, s3, s4, s5, s6, s7, s8⟩ := sOb_cells (x := ⟨pr, fl, le, id, fb, pb, refs, w0, h0⟩) (h6.blk mem1); obtain ⟨t0, t1, t2, t3, t4, t5, t6, t7, t8⟩ := sOb_cells (x := ⟨pr, fl, le, id, fb, pb, refs, w0, h0⟩) (h6.blk (List.mem_cons_self ..))) | (go_at_call 14; (with_reducible refine (sdec_as h6 _ KM.out K3.out).mono ?_); rintro e w7 ⟨rfl, h7⟩))
  have h8 := h7.alloc (sOb ⟨pr2, fl2, le2, id2, fb2, pb2, refs2, zw, zh⟩)
  clear s0 s1 s2 s3 s4 s5 s6 s7 s8
  clear h6 h7 t0 t1 t2 t3 t4 t5 t6 t7 t8
  generalize (w7.alloc (.cells #[.int .u8 pr2, .int .u8 fl2, .int .u8 le2, .int .i64 id2, .int .i64 fb2, .int .i64 pb2, .int .i64 refs2, .int .i64 zw, .int .i64 zh] 23 (0, 0))) = w8 at h8 ⊢
  generalize w7.heap.size = k3 at *
  by_cases c : er = 0
  · subst c
    obtain ⟨okz, okzu, hpz⟩ := BK.out rfl
    have hez : sErr ⟨pr2, fl2, le2, id2, fb2, pb2, refs2, zw, zh⟩ = 0 := by unfold sErr; rw [if_pos okz]
    have K4 := Lib.hid (And.intro hpz hez)
    have KZ := Lib.hid okzu
    clear okz okzu hpz hez
    obtain ⟨s0, s1, s2, s3, s4, s5, s6, s7, s8⟩ := sOb_cells (x := ⟨pr2, fl2, le2, id2, fb2, pb2, refs2, zw, zh⟩) (h8.blk (List.mem_cons_self ..))
    go_wp2_with (first | (go_at_call 9; (with_reducible refine (senc_as h8 ⟨pr2, fl2, le2, id2, fb2, pb2, refs2, zw, zh⟩ KZ.out K4.out).mono ?_); rintro e w9 ⟨rfl, h9⟩; clear s0 s1 s2 s3 s4 s5 s6 s7 s8; obtain ⟨s0, s1, s2, s3, s4, s5, s6, s7, s8⟩ := sOb_cells (x := ⟨pr2, fl2, le2, id2, fb2, pb2, refs2, zw, zh⟩) (h9.blk (List.mem_cons_self ..))) | (go_at_call 11; (with_reducible refine (scheck_as h9 ⟨pr2, fl2, le2, id2, fb2, pb2, refs2, zw, zh⟩ K4.out.2).mono ?_); rintro e w10 ⟨rfl, h10⟩) | (go_at_call 13; (with_reducible refine (awake_any6 h10).mono ?_); rintro e w11 ⟨rfl, h11⟩))
    exact bodyPost_ret (results_tmp rfl _ _ _) rfl ⟨rfl, h11.below⟩
  · have dz : (er == 0) = false := by simp [c]
    have dz2 : (er != 0) = true := by simp [c]
    have hz := ERR.out c
    injection hz with z1 z2 z3 z4 z5 z6 z7 z8 z9
    subst z1 z2 z3 z4 z5 z6 z7 z8 z9
    obtain ⟨s0, s1, s2, s3, s4, s5, s6, s7, s8⟩ := sOb_cells (x := s00) (h8.blk (List.mem_cons_self ..))
    go_wp2_with (first | (go_at_call 13; (with_reducible refine (awake_any6 h8).mono ?_); rintro e w11 ⟨rfl, h11⟩))
    exact bodyPost_ret (results_tmp rfl _ _ _) rfl ⟨rfl, h11.below⟩
end Go.Proofs.Ytnigpledibhiaaa
