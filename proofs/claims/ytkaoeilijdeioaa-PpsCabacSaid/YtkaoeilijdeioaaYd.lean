/- The reference's Encode of picture parameter sets. -/
import Derived.Test.YtkaoeilijdeioaaYv
import Derived.LoopN
namespace Go.Proofs.Ytkaoeilijdeioaa
open Go.RowKit
set_option linter.unusedVariables false
set_option maxRecDepth 100000
set_option linter.unusedSimpArgs false

set_option maxHeartbeats 4000000 in
theorem rpenc_any {W w : World} {L : List AObj} {F : List (Nat × Obj)} (h : Hp W w L F) (x : PpsD) :
    Calls Try.prog 10 #[pv x] w fun e w' => e = .returned (.tuple #[.string (pPay x), .int .i64 (pErr x)]) ∧ Hp W w' L F := by
  have HC0 : ∀ w, Calls Try.prog 12 #[pv x] w fun e w' => e = .returned (.int .i64 (pErr x)) ∧ Below w.heap.size w w' := fun w => rpcheck_any x w
  obtain ⟨e0, he0⟩ : ∃ e, pErr x = e := ⟨_, rfl⟩
  obtain ⟨S, hS⟩ : ∃ S, pPay x = S := ⟨_, rfl⟩
  rw [he0] at HC0 ⊢
  rw [hS]
  cases hok : okP x
  case false =>
    obtain rfl : e0 = 3 := by rw [← he0]; unfold pErr; rw [hok]; rfl
    obtain rfl : S = ⟨#[]⟩ := by rw [← hS]; unfold pPay; rw [hok]; rfl
    clear he0 hS hok
    have HC := Lib.hid HC0
    have H := Lib.hid h
    obtain ⟨id, sps, cab, refs, refs1, qp, qs, ch, deb, intra⟩ := x
    try simp only at HC
    clear HC0 h
    go_enter Try.func10, Try.ntmps10
    go_wp2_with (first | (go_at_call 12; (with_reducible refine (HC.out _).mono ?_); rintro e w1 ⟨rfl, hb1⟩; have h1 := (H.out.alloc _).same hb1; clear hb1))
    exact bodyPost_ret (results_tmp2 rfl _ _ _) rfl ⟨rfl, h1.drop⟩
  obtain rfl : e0 = 0 := by rw [← he0]; unfold pErr; rw [hok]; rfl
  have hP : pstr (tlB (ppB x)) = S := by rw [← hS]; unfold pPay; rw [hok]; rfl
  obtain ⟨m1, m2, m3, m4, m5, m6, m7, m8, m9, m10, m11, m12, m13, m14⟩ := okP_bounds hok
  clear he0 hS hok
  have HC := Lib.hid HC0
  have H := Lib.hid h
  clear HC0 h
  obtain ⟨id, sps, cab, refs, refs1, qp, qs, ch, deb, intra⟩ := x
  try simp only at *
  obtain ⟨i, rfl⟩ : ∃ k : Nat, id = (k : Int) := ⟨id.toNat, by omega⟩
  obtain ⟨s, rfl⟩ : ∃ k : Nat, sps = (k : Int) := ⟨sps.toNat, by omega⟩
  obtain ⟨a, ka⟩ : ∃ k : Nat, refs - 1 = (k : Int) := ⟨(refs - 1).toNat, by omega⟩
  have la : a ≤ 31 := by omega
  have za : IntKind.i64.wrap (refs - 1) = (a : Int) := by rw [ka, IntKind.wrap_i64]; omega
  obtain ⟨b, kb⟩ : ∃ k : Nat, refs1 - 1 = (k : Int) := ⟨(refs1 - 1).toNat, by omega⟩
  have lb : b ≤ 31 := by omega
  have zb : IntKind.i64.wrap (refs1 - 1) = (b : Int) := by rw [kb, IntKind.wrap_i64]; omega
  unfold ppB pBits tlB at hP
  simp only [Int.toNat_natCast, ka, kb] at hP
  obtain ⟨c, hc⟩ : ∃ k : Nat, cab.toNat = k := ⟨_, rfl⟩
  have lc : c < 2 := by rw [← hc]; cases cab <;> decide
  rw [hc] at hP
  have Bc := Lib.hid hc
  clear hc
  obtain ⟨d, hd⟩ : ∃ k : Nat, deb.toNat = k := ⟨_, rfl⟩
  have ld : d < 2 := by rw [← hd]; cases deb <;> decide
  rw [hd] at hP
  have Bd := Lib.hid hd
  clear hd
  obtain ⟨n, hn⟩ : ∃ k : Nat, intra.toNat = k := ⟨_, rfl⟩
  have ln : n < 2 := by rw [← hn]; cases intra <;> decide
  rw [hn] at hP
  have Bn := Lib.hid hn
  clear hn
  obtain ⟨B1, x1⟩ : ∃ B, [] ++ ueB i = B := ⟨_, rfl⟩
  have y1 : B1.length ≤ 100 := by rw [← x1, List.length_append, List.length_nil]; have := ueB_len (v := i) (by omega); omega
  obtain ⟨B2, x2⟩ : ∃ B, B1 ++ ueB s = B := ⟨_, rfl⟩
  have y2 : B2.length ≤ 200 := by rw [← x2, List.length_append]; have := ueB_len (v := s) (by omega); omega
  obtain ⟨B3, x3⟩ : ∃ B, B2 ++ bitsN 1 c = B := ⟨_, rfl⟩
  have y3 : B3.length ≤ 300 := by rw [← x3, List.length_append, bitsN_length]; omega
  obtain ⟨B4, x4⟩ : ∃ B, B3 ++ bitsN 1 0 = B := ⟨_, rfl⟩
  have y4 : B4.length ≤ 400 := by rw [← x4, List.length_append, bitsN_length]; omega
  obtain ⟨B5, x5⟩ : ∃ B, B4 ++ ueB 0 = B := ⟨_, rfl⟩
  have y5 : B5.length ≤ 500 := by rw [← x5, List.length_append]; have := ueB_len (v := 0) (by omega); omega
  obtain ⟨B6, x6⟩ : ∃ B, B5 ++ ueB a = B := ⟨_, rfl⟩
  have y6 : B6.length ≤ 600 := by rw [← x6, List.length_append]; have := ueB_len (v := a) (by omega); omega
  obtain ⟨B7, x7⟩ : ∃ B, B6 ++ ueB b = B := ⟨_, rfl⟩
  have y7 : B7.length ≤ 700 := by rw [← x7, List.length_append]; have := ueB_len (v := b) (by omega); omega
  obtain ⟨B8, x8⟩ : ∃ B, B7 ++ bitsN 3 0 = B := ⟨_, rfl⟩
  have y8 : B8.length ≤ 800 := by rw [← x8, List.length_append, bitsN_length]; omega
  obtain ⟨B9, x9⟩ : ∃ B, B8 ++ ueB (seN qp) = B := ⟨_, rfl⟩
  have y9 : B9.length ≤ 900 := by rw [← x9, List.length_append]; have := ueB_len (v := seN qp) (by have := seN_small (t := qp) (by omega) (by omega); omega); omega
  obtain ⟨B10, x10⟩ : ∃ B, B9 ++ ueB (seN qs) = B := ⟨_, rfl⟩
  have y10 : B10.length ≤ 1000 := by rw [← x10, List.length_append]; have := ueB_len (v := seN qs) (by have := seN_small (t := qs) (by omega) (by omega); omega); omega
  obtain ⟨B11, x11⟩ : ∃ B, B10 ++ ueB (seN ch) = B := ⟨_, rfl⟩
  have y11 : B11.length ≤ 1100 := by rw [← x11, List.length_append]; have := ueB_len (v := seN ch) (by have := seN_small (t := ch) (by omega) (by omega); omega); omega
  obtain ⟨B12, x12⟩ : ∃ B, B11 ++ bitsN 1 d = B := ⟨_, rfl⟩
  have y12 : B12.length ≤ 1200 := by rw [← x12, List.length_append, bitsN_length]; omega
  obtain ⟨B13, x13⟩ : ∃ B, B12 ++ bitsN 1 n = B := ⟨_, rfl⟩
  have y13 : B13.length ≤ 1300 := by rw [← x13, List.length_append, bitsN_length]; omega
  obtain ⟨B14, x14⟩ : ∃ B, B13 ++ bitsN 1 0 = B := ⟨_, rfl⟩
  have y14 : B14.length ≤ 1400 := by rw [← x14, List.length_append, bitsN_length]; omega
  obtain ⟨B15, x15⟩ : ∃ B, B14 ++ trB B14.length = B := ⟨_, rfl⟩
  have y15 : B15.length ≤ 1900 := by rw [← x15, List.length_append]; have := trB_len B14.length; omega
  have hP2 : pstr B15 = S := by rw [← x15, ← x14, ← x13, ← x12, ← x11, ← x10, ← x9, ← x8, ← x7, ← x6, ← x5, ← x4, ← x3, ← x2, ← x1]; exact hP
  clear hP
  have X1 := Lib.hid (And.intro x1 (show B1.length ≤ 2000 by omega))
  have X2 := Lib.hid (And.intro x2 (show B2.length ≤ 2000 by omega))
  have X3 := Lib.hid (And.intro x3 (show B3.length ≤ 2000 by omega))
  have X4 := Lib.hid (And.intro x4 (show B4.length ≤ 2000 by omega))
  have X5 := Lib.hid (And.intro x5 (show B5.length ≤ 2000 by omega))
  have X6 := Lib.hid (And.intro x6 (show B6.length ≤ 2000 by omega))
  have X7 := Lib.hid (And.intro x7 (show B7.length ≤ 2000 by omega))
  have X8 := Lib.hid (And.intro x8 (show B8.length ≤ 2000 by omega))
  have X9 := Lib.hid (And.intro x9 (show B9.length ≤ 2000 by omega))
  have X10 := Lib.hid (And.intro x10 (show B10.length ≤ 2000 by omega))
  have X11 := Lib.hid (And.intro x11 (show B11.length ≤ 2000 by omega))
  have X12 := Lib.hid (And.intro x12 (show B12.length ≤ 2000 by omega))
  have X13 := Lib.hid (And.intro x13 (show B13.length ≤ 2000 by omega))
  have X14 := Lib.hid (And.intro x14 (show B14.length ≤ 2000 by omega))
  have X15 := Lib.hid (And.intro x15 (show B15.length ≤ 2000 by omega))
  have hP3 := Lib.hid hP2
  have X0 : Hid (True ∧ ([] : List Bool).length ≤ 2000) := Lib.hid ⟨trivial, by decide⟩
  clear hP2 x1 y1 x2 y2 x3 y3 x4 y4 x5 y5 x6 y6 x7 y7 x8 y8 x9 y9 x10 y10 x11 y11 x12 y12 x13 y13 x14 y14 x15 y15
  go_enter Try.func10, Try.ntmps10
  go_wp2_with (first | (go_at_call 12; (with_reducible refine (HC.out _).mono ?_); rintro e w1 ⟨rfl, hb1⟩; have g1 := (H.out.alloc _).same hb1; clear hb1; obtain ⟨s0, s1, s2, s3, s4, s5, s6, s7, s8, s9⟩ := pOb_cells (x := ⟨i, s, cab, refs, refs1, qp, qs, ch, deb, intra⟩) (g1.blk (List.mem_cons_self ..))) | (go_at_call 27; (with_reducible refine (qwrite_any g1).mono ?_); rintro e w2 ⟨wb, rfl, h0⟩; clear g1; clear s0 s1 s2 s3 s4 s5 s6 s7 s8 s9; obtain ⟨s0, s1, s2, s3, s4, s5, s6, s7, s8, s9⟩ := pOb_cells (x := ⟨i, s, cab, refs, refs1, qp, qs, ch, deb, intra⟩) (h0.blk (List.mem_cons_self ..))) | (go_at_call 30; (with_reducible refine (rpbit_as Bc.out _).mono ?_); rintro e wx ⟨rfl, rfl⟩) | (go_at_call 30; (with_reducible refine (rpbit_as Bd.out _).mono ?_); rintro e wx ⟨rfl, rfl⟩) | (go_at_call 30; (with_reducible refine (rpbit_as Bn.out _).mono ?_); rintro e wx ⟨rfl, rfl⟩) | (go_at_call 28; (with_reducible refine (qpue_is h0 0 at0 X0.out.2 i (by simp) (by omega) X1.out.1).mono ?_); rintro e w3 ⟨rfl, h1⟩; simp only [set0] at h1; clear h0; clear s0 s1 s2 s3 s4 s5 s6 s7 s8 s9; obtain ⟨s0, s1, s2, s3, s4, s5, s6, s7, s8, s9⟩ := pOb_cells (x := ⟨i, s, cab, refs, refs1, qp, qs, ch, deb, intra⟩) (h1.blk (List.mem_cons_self ..))) | (go_at_call 28; (with_reducible refine (qpue_is h1 0 at0 X1.out.2 s (by simp) (by omega) X2.out.1).mono ?_); rintro e w4 ⟨rfl, h2⟩; simp only [set0] at h2; clear h1; clear s0 s1 s2 s3 s4 s5 s6 s7 s8 s9; obtain ⟨s0, s1, s2, s3, s4, s5, s6, s7, s8, s9⟩ := pOb_cells (x := ⟨i, s, cab, refs, refs1, qp, qs, ch, deb, intra⟩) (h2.blk (List.mem_cons_self ..))) | (go_at_call 29; (with_reducible refine (qput_is h2 0 at0 X2.out.2 1 c (by decide) (by simp) (by decide) (by omega) X3.out.1).mono ?_); rintro e w5 ⟨rfl, h3⟩; simp only [set0] at h3; clear h2; clear s0 s1 s2 s3 s4 s5 s6 s7 s8 s9; obtain ⟨s0, s1, s2, s3, s4, s5, s6, s7, s8, s9⟩ := pOb_cells (x := ⟨i, s, cab, refs, refs1, qp, qs, ch, deb, intra⟩) (h3.blk (List.mem_cons_self ..))) | (go_at_call 29; (with_reducible refine (qput_is h3 0 at0 X3.out.2 1 0 (by decide) (by simp) (by decide) (by omega) X4.out.1).mono ?_); rintro e w6 ⟨rfl, h4⟩; simp only [set0] at h4; clear h3; clear s0 s1 s2 s3 s4 s5 s6 s7 s8 s9; obtain ⟨s0, s1, s2, s3, s4, s5, s6, s7, s8, s9⟩ := pOb_cells (x := ⟨i, s, cab, refs, refs1, qp, qs, ch, deb, intra⟩) (h4.blk (List.mem_cons_self ..))) | (go_at_call 28; (with_reducible refine (qpue_is h4 0 at0 X4.out.2 0 (by simp) (by omega) X5.out.1).mono ?_); rintro e w7 ⟨rfl, h5⟩; simp only [set0] at h5; clear h4; clear s0 s1 s2 s3 s4 s5 s6 s7 s8 s9; obtain ⟨s0, s1, s2, s3, s4, s5, s6, s7, s8, s9⟩ := pOb_cells (x := ⟨i, s, cab, refs, refs1, qp, qs, ch, deb, intra⟩) (h5.blk (List.mem_cons_self ..))) | (go_at_call 28; (with_reducible refine (qpue_is h5 0 at0 X5.out.2 a (by simp) (by omega) X6.out.1).mono ?_); rintro e w8 ⟨rfl, h6⟩; simp only [set0] at h6; clear h5; clear s0 s1 s2 s3 s4 s5 s6 s7 s8 s9; obtain ⟨s0, s1, s2, s3, s4, s5, s6, s7, s8, s9⟩ := pOb_cells (x := ⟨i, s, cab, refs, refs1, qp, qs, ch, deb, intra⟩) (h6.blk (List.mem_cons_self ..))) | (go_at_call 28; (with_reducible refine (qpue_is h6 0 at0 X6.out.2 b (by simp) (by omega) X7.out.1).mono ?_); rintro e w9 ⟨rfl, h7⟩; simp only [set0] at h7; clear h6; clear s0 s1 s2 s3 s4 s5 s6 s7 s8 s9; obtain ⟨s0, s1, s2, s3, s4, s5, s6, s7, s8, s9⟩ := pOb_cells (x := ⟨i, s, cab, refs, refs1, qp, qs, ch, deb, intra⟩) (h7.blk (List.mem_cons_self ..))) | (go_at_call 29; (with_reducible refine (qput_is h7 0 at0 X7.out.2 3 0 (by decide) (by simp) (by decide) (by omega) X8.out.1).mono ?_); rintro e w10 ⟨rfl, h8⟩; simp only [set0] at h8; clear h7; clear s0 s1 s2 s3 s4 s5 s6 s7 s8 s9; obtain ⟨s0, s1, s2, s3, s4, s5, s6, s7, s8, s9⟩ := pOb_cells (x := ⟨i, s, cab, refs, refs1, qp, qs, ch, deb, intra⟩) (h8.blk (List.mem_cons_self ..))) | (go_at_call 31; (with_reducible refine (qpse_is h8 0 at0 X8.out.2 qp rfl (by omega) (by omega) X9.out.1).mono ?_); rintro e w11 ⟨rfl, h9⟩; simp only [set0] at h9; clear h8; clear s0 s1 s2 s3 s4 s5 s6 s7 s8 s9; obtain ⟨s0, s1, s2, s3, s4, s5, s6, s7, s8, s9⟩ := pOb_cells (x := ⟨i, s, cab, refs, refs1, qp, qs, ch, deb, intra⟩) (h9.blk (List.mem_cons_self ..))) | (go_at_call 31; (with_reducible refine (qpse_is h9 0 at0 X9.out.2 qs rfl (by omega) (by omega) X10.out.1).mono ?_); rintro e w12 ⟨rfl, h10⟩; simp only [set0] at h10; clear h9; clear s0 s1 s2 s3 s4 s5 s6 s7 s8 s9; obtain ⟨s0, s1, s2, s3, s4, s5, s6, s7, s8, s9⟩ := pOb_cells (x := ⟨i, s, cab, refs, refs1, qp, qs, ch, deb, intra⟩) (h10.blk (List.mem_cons_self ..))) | (go_at_call 31; (with_reducible refine (qpse_is h10 0 at0 X10.out.2 ch rfl (by omega) (by omega) X11.out.1).mono ?_); rintro e w13 ⟨rfl, h11⟩; simp only [set0] at h11; clear h10; clear s0 s1 s2 s3 s4 s5 s6 s7 s8 s9; obtain ⟨s0, s1, s2, s3, s4, s5, s6, s7, s8, s9⟩ := pOb_cells (x := ⟨i, s, cab, refs, refs1, qp, qs, ch, deb, intra⟩) (h11.blk (List.mem_cons_self ..))) | (go_at_call 29; (with_reducible refine (qput_is h11 0 at0 X11.out.2 1 d (by decide) (by simp) (by decide) (by omega) X12.out.1).mono ?_); rintro e w14 ⟨rfl, h12⟩; simp only [set0] at h12; clear h11; clear s0 s1 s2 s3 s4 s5 s6 s7 s8 s9; obtain ⟨s0, s1, s2, s3, s4, s5, s6, s7, s8, s9⟩ := pOb_cells (x := ⟨i, s, cab, refs, refs1, qp, qs, ch, deb, intra⟩) (h12.blk (List.mem_cons_self ..))) | (go_at_call 29; (with_reducible refine (qput_is h12 0 at0 X12.out.2 1 n (by decide) (by simp) (by decide) (by omega) X13.out.1).mono ?_); rintro e w15 ⟨rfl, h13⟩; simp only [set0] at h13; clear h12; clear s0 s1 s2 s3 s4 s5 s6 s7 s8 s9; obtain ⟨s0, s1, s2, s3, s4, s5, s6, s7, s8, s9⟩ := pOb_cells (x := ⟨i, s, cab, refs, refs1, qp, qs, ch, deb, intra⟩) (h13.blk (List.mem_cons_self ..))) | (go_at_call 29; (with_reducible refine (qput_is h13 0 at0 X13.out.2 1 0 (by decide) (by simp) (by decide) (by omega) X14.out.1).mono ?_); rintro e w16 ⟨rfl, h14⟩; simp only [set0] at h14; clear h13; clear s0 s1 s2 s3 s4 s5 s6 s7 s8 s9; obtain ⟨s0, s1, s2, s3, s4, s5, s6, s7, s8, s9⟩ := pOb_cells (x := ⟨i, s, cab, refs, refs1, qp, qs, ch, deb, intra⟩) (h14.blk (List.mem_cons_self ..))) | (go_at_call 32; (with_reducible refine (qtrail_is h14 0 at0 X14.out.2 X15.out.1).mono ?_); rintro e wt ⟨rfl, ht⟩; simp only [set0] at ht) | (go_at_call 33; (with_reducible refine (qbytes_is ht 0 at0 X15.out.2 hP3.out).mono ?_); rintro e wy ⟨rfl, hz⟩))
  exact bodyPost_ret (results_tmp2 rfl _ _ _) rfl ⟨rfl, hz.tail.drop⟩
end Go.Proofs.Ytkaoeilijdeioaa
