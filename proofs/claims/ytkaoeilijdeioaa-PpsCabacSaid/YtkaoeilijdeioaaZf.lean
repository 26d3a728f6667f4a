/- PpsBack. -/
import Derived.Test.YtkaoeilijdeioaaZe
import Derived.Deep.CutBlock
namespace Go.Proofs.Ytkaoeilijdeioaa
open Go.RowKit
set_option linter.unusedVariables false
set_option maxRecDepth 100000
set_option linter.unusedSimpArgs false

set_option maxHeartbeats 4000000 in
theorem pback_walk (n0 n1 n2 n3 n4 n5 n6 n7 : Int) (b0 : In64 n0) (b1 : In64 n1) (b2 : In64 n2) (b3 : In64 n3) (b4 : In64 n4) (b5 : In64 n5) (b6 : In64 n6) (s : ByteArray) (hs : s.size ≤ maxLen) (W : World) :
    Calls Try.prog 6 #[.agg #[.int .i64 n0, .int .i64 n1, .int .i64 n2, .int .i64 n3, .int .i64 n4, .int .i64 n5, .int .i64 n6, .int .i64 n7], .string s] W fun e w' => e = .returned (.bool true) ∧ Below W.heap.size W w' := by
  obtain ⟨x, ok, V⟩ := valid_any n0 n1 n2 n3 n4 n5 n6 n7 b0 b1 b2 b3 b4 b5 b6
  obtain ⟨z1, z2⟩ := pPay_size ok
  have hdec := pDec_enc ok
  have her : pErr x = 0 := by unfold pErr; rw [if_pos ok]
  obtain ⟨T, hT⟩ : ∃ T, pPay x = T := ⟨_, rfl⟩
  rw [hT] at z1 z2 hdec
  obtain ⟨M, hM⟩ : ∃ M : Nat, min s.size 20 = M := ⟨_, rfl⟩
  have m1 : M ≤ s.size := by omega
  have m3 : min (s.size : Int) 20 = (M : Int) := by omega
  have m4 : (s.extract 0 M).size ≤ 2 ^ 48 := by rw [ByteArray.size_extract]; omega
  obtain ⟨z, hz⟩ : ∃ z, (pDec (s.extract 0 M)).1 = z := ⟨_, rfl⟩
  obtain ⟨er, he⟩ : ∃ e, (pDec (s.extract 0 M)).2 = e := ⟨_, rfl⟩
  have hD : pDec (s.extract 0 M) = (z, er) := by rw [← hz, ← he]
  have herr : er ≠ 0 → z = p00 := fun h => by rw [← hz]; exact pDec_err (by rw [he]; exact h)
  have hbk : er = 0 → okP z = true ∧ pPay z = s.extract 0 M := fun h => pDec_back (by rw [hD, h])
  have T48 : T.size ≤ 2 ^ 48 := by omega
  have K1 := Lib.hid (And.intro hT her)
  have K2 := Lib.hid hdec
  have K3 := Lib.hid hD
  have KT := Lib.hid T48
  have KM := Lib.hid m4
  have HV := Lib.hid V
  have H := Lib.hid (Hp.start W)
  have E2 : ∀ w, (Op.equalIn 10000 23 (pv x) (pv x)).run Try.prog w = .ok true w := fun w => by rw [pps_eq, decide_eq_true rfl]
  have E3 : ∀ w, (Op.equalIn 10000 23 (pv p00) (pv p00)).run Try.prog w = .ok true w := fun w => by rw [pps_eq, decide_eq_true rfl]
  clear hM hT her hdec hz he hD m4 V ok T48 b0 b1 b2 b3 b4 b5 b6
  obtain ⟨id, sp, cab, rf, rf1, qp, qs, ch, deb, intr⟩ := x
  obtain ⟨id2, sp2, cab2, rf2, rf12, qp2, qs2, ch2, deb2, intr2⟩ := z
  have ERR := Lib.hid herr
  have BK := Lib.hid hbk
  clear herr hbk
  go_enter Try.func6, Try.ntmps6
  go_upto_region 3 with (first | (go_at_call 17; (with_reducible refine (HV.out _ _ _ _ (H.out.alloc (n8Ob n0 n1 n2 n3 n4 n5 n6 n7))).mono ?_); rintro e w1 ⟨rfl, h1⟩))
  have h2 := h1.alloc (pOb ⟨id, sp, cab, rf, rf1, qp, qs, ch, deb, intr⟩)
  clear h1
  generalize (w1.alloc (.cells #[.int .i64 id, .int .i64 sp, .bool cab, .int .i64 rf, .int .i64 rf1, .int .i64 qp, .int .i64 qs, .int .i64 ch, .bool deb, .bool intr] 23 (0, 0))) = w2 at h2 ⊢
  generalize w1.heap.size = k1 at *
  obtain ⟨s0, s1, s2, s3, s4, s5, s6, s7, s8, s9⟩ := pOb_cells (x := ⟨id, sp, cab, rf, rf1, qp, qs, ch, deb, intr⟩) (h2.blk (List.mem_cons_self ..))
  go_upto_region 5 with (first | (go_at_call 9; (with_reducible refine (penc_as h2 ⟨id, sp, cab, rf, rf1, qp, qs, ch, deb, intr⟩ K1.out).mono ?_); rintro e w3 ⟨rfl, h3⟩) | (go_at_call 14; (with_reducible refine (pdec_as h3 T KT.out K2.out).mono ?_); rintro e w4 ⟨rfl, h4⟩))
  have h5 := h4.alloc (pOb ⟨id, sp, cab, rf, rf1, qp, qs, ch, deb, intr⟩)
  clear s0 s1 s2 s3 s4 s5 s6 s7 s8 s9
  clear h2 h3 h4
  generalize (w4.alloc (.cells #[.int .i64 id, .int .i64 sp, .bool cab, .int .i64 rf, .int .i64 rf1, .int .i64 qp, .int .i64 qs, .int .i64 ch, .bool deb, .bool intr] 23 (0, 0))) = w5 at h5 ⊢
  generalize w4.heap.size = k2 at *
  obtain ⟨s0, s1, s2, s3, s4, s5, s6, s7, s8, s9⟩ := pOb_cells (x := ⟨id, sp, cab, rf, rf1, qp, qs, ch, deb, intr⟩) (h5.blk mem1)
  obtain ⟨t0, t1, t2, t3, t4, t5, t6, t7, t8, t9⟩ := pOb_cells (x := ⟨id, sp, cab, rf, rf1, qp, qs, ch, deb, intr⟩) (h5.blk (List.mem_cons_self ..))
  go_upto_region 8 with (first | (go_at_call 11; (with_reducible refine (pcheck_as h5 ⟨id, sp, cab, rf, rf1, qp, qs, ch, deb, intr⟩ K1.out.2).mono ?_); rintro e w6 ⟨rfl, h6⟩; clear h5 s0 s1 s2 s3 s4 s5 s6 s7 s8 s9 t0 t1 t2 t3 t4 t5 t6 t7 t8 t9; obtain ⟨s0, s1, s2, s3, s4, s5, s6, s7, s8, s9⟩ := pOb_cells (x := ⟨id, sp, cab, rf, rf1, qp, qs, ch, deb, intr⟩) (h6.blk mem1); obtain ⟨t0, t1, t2, t3, t4, t5, t6, t7, t8, t9⟩ := pOb_cells (x := ⟨id, sp, cab, rf, rf1, qp, qs, ch, deb, intr⟩) (h6.blk (List.mem_cons_self ..))) | (go_at_call 14; (with_reducible refine (pdec_as h6 _ KM.out K3.out).mono ?_); rintro e w7 ⟨rfl, h7⟩))
  have h8 := h7.alloc (pOb ⟨id2, sp2, cab2, rf2, rf12, qp2, qs2, ch2, deb2, intr2⟩)
  clear s0 s1 s2 s3 s4 s5 s6 s7 s8 s9
  clear h6 h7 t0 t1 t2 t3 t4 t5 t6 t7 t8 t9
  generalize (w7.alloc (.cells #[.int .i64 id2, .int .i64 sp2, .bool cab2, .int .i64 rf2, .int .i64 rf12, .int .i64 qp2, .int .i64 qs2, .int .i64 ch2, .bool deb2, .bool intr2] 23 (0, 0))) = w8 at h8 ⊢
  generalize w7.heap.size = k3 at *
  by_cases c : er = 0
  · subst c
    obtain ⟨okz, hpz⟩ := BK.out rfl
    have hez : pErr ⟨id2, sp2, cab2, rf2, rf12, qp2, qs2, ch2, deb2, intr2⟩ = 0 := by unfold pErr; rw [if_pos okz]
    have K4 := Lib.hid (And.intro hpz hez)
    clear okz hpz hez
    obtain ⟨s0, s1, s2, s3, s4, s5, s6, s7, s8, s9⟩ := pOb_cells (x := ⟨id2, sp2, cab2, rf2, rf12, qp2, qs2, ch2, deb2, intr2⟩) (h8.blk (List.mem_cons_self ..))
    go_wp2_with (first | (go_at_call 9; (with_reducible refine (penc_as h8 ⟨id2, sp2, cab2, rf2, rf12, qp2, qs2, ch2, deb2, intr2⟩ K4.out).mono ?_); rintro e w9 ⟨rfl, h9⟩; clear s0 s1 s2 s3 s4 s5 s6 s7 s8 s9; obtain ⟨s0, s1, s2, s3, s4, s5, s6, s7, s8, s9⟩ := pOb_cells (x := ⟨id2, sp2, cab2, rf2, rf12, qp2, qs2, ch2, deb2, intr2⟩) (h9.blk (List.mem_cons_self ..))) | (go_at_call 11; (with_reducible refine (pcheck_as h9 ⟨id2, sp2, cab2, rf2, rf12, qp2, qs2, ch2, deb2, intr2⟩ K4.out.2).mono ?_); rintro e w10 ⟨rfl, h10⟩) | (go_at_call 13; (with_reducible refine (awake_any7 h10).mono ?_); rintro e w11 ⟨rfl, h11⟩))
    exact bodyPost_ret (results_tmp rfl _ _ _) rfl ⟨rfl, h11.below⟩
  · have dz : (er == 0) = false := by simp [c]
    have dz2 : (er != 0) = true := by simp [c]
    have hz := ERR.out c
    injection hz with z1 z2 z3 z4 z5 z6 z7 z8 z9 z10
    subst z1 z2 z3 z4 z5 z6 z7 z8 z9 z10
    obtain ⟨s0, s1, s2, s3, s4, s5, s6, s7, s8, s9⟩ := pOb_cells (x := p00) (h8.blk (List.mem_cons_self ..))
    go_wp2_with (first | (go_at_call 13; (with_reducible refine (awake_any7 h8).mono ?_); rintro e w11 ⟨rfl, h11⟩))
    exact bodyPost_ret (results_tmp rfl _ _ _) rfl ⟨rfl, h11.below⟩
end Go.Proofs.Ytkaoeilijdeioaa
