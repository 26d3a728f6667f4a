/- The program's Decode of picture parameter sets. -/
import Derived.Test.YtkaoeilijdeioaaYt
import Derived.Deep.CutBlock
namespace Go.Proofs.Ytkaoeilijdeioaa
open Go.RowKit
set_option linter.unusedVariables false
set_option maxRecDepth 100000
set_option linter.unusedSimpArgs false

theorem kd_pl8 {b : Bool} {wr e : Int} {i : Nat} {e' : Int} {i' : Nat} (h : kdR b wr (e, i) = (e', i')) : i' = i := by
  unfold kdR at h
  split at h
  · exact (Prod.mk.inj h).2.symm
  · exact (Prod.mk.inj h).2.symm
theorem pTo_load8 {w : World} {b : Nat} {y : PpsD} (h : w.heap[b]? = some (pOb y)) (x : PpsD) : (loadVar 23 ⟨b, 0, none⟩).run Try.prog (pTo w b x) = .ok (pv x) (pTo w b x) := pOb_load (pTo_blk h x)
theorem Hp.mid8 {W w : World} {L : List AObj} {F : List (Nat × Obj)} {a b c r : Nat × Obj} (h : Hp W w L (a :: b :: c :: r :: F)) : Hp W w L (r :: a :: b :: c :: F) := h.reorder (List.perm_middle (l₁ := [a, b, c]))
set_option maxHeartbeats 8000000 in
theorem pdec_any {W w : World} {L : List AObj} {F : List (Nat × Obj)} (h : Hp W w L F) (s : ByteArray) (hs : s.size ≤ 2 ^ 48) {x : PpsD} {er : Int} (hx : PpsDec s x er) :
    Calls Try.prog 14 #[.string s] w fun e w' => e = .returned (.tuple #[pv x, .int .i64 er]) ∧ Hp W w' L F := by
  obtain ⟨v, g, e, i, hr, hx1, hx2⟩ := hx
  obtain ⟨a1, a2, a3, a4, b4, a5, a6, a7, a8, b8, a9, a10, a11, a12, a13, a14, b14, b18⟩ := hr
  simp only [ppsOf] at hx2
  generalize v 1 = v1 at *
  generalize v 2 = v2 at *
  generalize v 3 = v3 at *
  generalize v 4 = v4 at *
  generalize v 5 = v5 at *
  generalize v 6 = v6 at *
  generalize v 7 = v7 at *
  generalize v 8 = v8 at *
  generalize v 12 = v12 at *
  generalize v 13 = v13 at *
  generalize v 14 = v14 at *
  generalize g 9 = g9 at *
  generalize g 10 = g10 at *
  generalize g 11 = g11 at *
  generalize e 1 = e1 at *
  generalize e 2 = e2 at *
  generalize e 3 = e3 at *
  generalize e 4 = e4 at *
  generalize e 5 = e5 at *
  generalize e 6 = e6 at *
  generalize e 7 = e7 at *
  generalize e 8 = e8 at *
  generalize e 9 = e9 at *
  generalize e 10 = e10 at *
  generalize e 11 = e11 at *
  generalize e 12 = e12 at *
  generalize e 13 = e13 at *
  generalize e 14 = e14 at *
  generalize e 15 = e15 at *
  generalize e 16 = e16 at *
  generalize e 17 = e17 at *
  generalize e 18 = e18 at *
  generalize i 1 = i1 at *
  generalize i 2 = i2 at *
  generalize i 3 = i3 at *
  generalize i 4 = i4 at *
  generalize i 5 = i5 at *
  generalize i 6 = i6 at *
  generalize i 7 = i7 at *
  generalize i 8 = i8 at *
  generalize i 9 = i9 at *
  generalize i 10 = i10 at *
  generalize i 11 = i11 at *
  generalize i 12 = i12 at *
  generalize i 13 = i13 at *
  generalize i 14 = i14 at *
  generalize i 15 = i15 at *
  generalize i 16 = i16 at *
  generalize i 17 = i17 at *
  clear v g e i
  have u6 : IntKind.i64.wrap (1 + (v6 : Int)) = 1 + (v6 : Int) := by have := nmR_lt a6; rw [IntKind.wrap_i64]; omega
  have u7 : IntKind.i64.wrap (1 + (v7 : Int)) = 1 + (v7 : Int) := by have := nmR_lt a7; rw [IntKind.wrap_i64]; omega
  have q4 := ub_any a4 b4
  have q8 := ub_any a8 b8
  have q14 := ub_any a14 b14
  have q3 := ub_one a3
  have q12 := ub_one a12
  have q13 := ub_one a13
  clear a3 a4 b4 a8 b8 a12 a13 a14 b14
  obtain ⟨t3, d3⟩ : ∃ b, (v3 == 1) = b := ⟨_, rfl⟩
  obtain ⟨t4, d4⟩ : ∃ b, (v4 == 1) = b := ⟨_, rfl⟩
  obtain ⟨t8, d8⟩ : ∃ b, (v8 == 1) = b := ⟨_, rfl⟩
  obtain ⟨t12, d12⟩ : ∃ b, (v12 == 1) = b := ⟨_, rfl⟩
  obtain ⟨t13, d13⟩ : ∃ b, (v13 == 1) = b := ⟨_, rfl⟩
  obtain ⟨t14, d14⟩ : ∃ b, (v14 == 1) = b := ⟨_, rfl⟩
  rw [d3] at hx2
  rw [d12] at hx2
  rw [d13] at hx2
  have A3 := Lib.hid (And.intro q3 d3)
  have A4 := Lib.hid (And.intro q4 d4)
  have A8 := Lib.hid (And.intro q8 d8)
  have A12 := Lib.hid (And.intro q12 d12)
  have A13 := Lib.hid (And.intro q13 d13)
  have A14 := Lib.hid (And.intro q14 d14)
  have A1 := Lib.hid a1
  have A2 := Lib.hid a2
  have A5 := Lib.hid a5
  have A6 := Lib.hid a6
  have A7 := Lib.hid a7
  have A9 := Lib.hid a9
  have A10 := Lib.hid a10
  have A11 := Lib.hid a11
  have B18 := Lib.hid b18
  clear b18 q3 d3 q4 d4 q8 d8 q12 d12 q13 d13 q14 d14 a1 a2 a5 a6 a7 a9 a10 a11
  have hR := read_any (h.alloc (pOb p00)) s hs
  have hR' : Calls Try.prog 36 #[.string s] (w.alloc (.cells #[.int .i64 0, .int .i64 0, .bool false, .int .i64 0, .int .i64 0, .int .i64 0, .int .i64 0, .int .i64 0, .bool false, .bool false] 23 (0, 0))) (fun e w' => ∃ r, e = .returned (.pointer (some ⟨r, 0, none⟩)) ∧ Hp W w' (aRd r s 0 :: L) ((w.heap.size, pOb p00) :: F)) := hR
  have HR := Lib.hid hR'
  have HX := Lib.hid (And.intro hx1 hx2)
  clear h hs hR hR' hx1 hx2
  go_enter Try.func14, Try.ntmps14
  go_upto_region 6 with (first | (go_at_call 36; (with_reducible refine HR.out.mono ?_); rintro e w0 ⟨r, rfl, h0⟩))
  have y0 := (((h0.alloc (.cells #[.pointer (some ⟨r, 0, none⟩)] 60 (0, 0))).alloc (fOb 0)).alloc (pOb p00)).sw7
  simp only [World.size_alloc] at y0
  clear h0 HR
  generalize (((w0.alloc (.cells #[.pointer (some ⟨r, 0, none⟩)] 60 (0, 0))).alloc (.cells #[.int .i64 0] 24 (0, 0))).alloc (.cells #[.int .i64 0, .int .i64 0, .bool false, .int .i64 0, .int .i64 0, .int .i64 0, .int .i64 0, .int .i64 0, .bool false, .bool false] 23 (0, 0))) = x0 at y0 ⊢
  generalize w0.heap.size = rb at *
  generalize hxb : rb + 1 + 1 = xb at *
  clear hxb
  generalize heb : rb + 1 = eb at *
  clear heb
  generalize w.heap.size = m at *
  obtain ⟨s0, s1, s2, s3, s4, s5, s6, s7, s8, s9⟩ := pOb_cells (y0.blk mem1); obtain ⟨f0, f1, f2, f3, f4, f5, f6, f7, f8, f9⟩ := pOb_free (y0.blk mem1)
  go_upto_region 7 with (first | (go_at_call 37; (refine (due_any y0 at0 mem1 31 3 A1.out).mono ?_); rintro e z1 ⟨rfl, h1⟩; simp only [set0] at h1; clear y0; clear s0 s1 s2 s3 s4 s5 s6 s7 s8 s9 f0 f1 f2 f3 f4 f5 f6 f7 f8 f9; obtain ⟨s0, s1, s2, s3, s4, s5, s6, s7, s8, s9⟩ := pOb_cells (h1.blk mem1); obtain ⟨f0, f1, f2, f3, f4, f5, f6, f7, f8, f9⟩ := pOb_free (h1.blk mem1)) | (go_at_call 37; (refine (due_any h1 at0 mem1 31 3 A2.out).mono ?_); rintro e z2 ⟨rfl, h2⟩; simp only [set0] at h2; clear h1; clear s0 s1 s2 s3 s4 s5 s6 s7 s8 s9 f0 f1 f2 f3 f4 f5 f6 f7 f8 f9; obtain ⟨s0, s1, s2, s3, s4, s5, s6, s7, s8, s9⟩ := pOb_cells (h2.blk mem1); obtain ⟨f0, f1, f2, f3, f4, f5, f6, f7, f8, f9⟩ := pOb_free (h2.blk mem1)))
  have y6 := (h2.pTo0 (v1 : Int)).pTo1 (v2 : Int)
  clear h2; clear s0 s1 s2 s3 s4 s5 s6 s7 s8 s9 f0 f1 f2 f3 f4 f5 f6 f7 f8 f9
  generalize ((z2.setCell ⟨xb, 0, none⟩ (.int .i64 (v1 : Int))).setCell ⟨xb, 1, none⟩ (.int .i64 (v2 : Int))) = x6 at y6 ⊢
  obtain ⟨s0, s1, s2, s3, s4, s5, s6, s7, s8, s9⟩ := pOb_cells (y6.blk mem1); obtain ⟨f0, f1, f2, f3, f4, f5, f6, f7, f8, f9⟩ := pOb_free (y6.blk mem1)
  go_upto_region 8 with (first | (go_at_call 47; (refine (du_any y6 at0 mem1 1 1 A3.out.1 A3.out.2).mono ?_); rintro e z3 ⟨rfl, h3⟩; simp only [set0] at h3; clear y6; clear s0 s1 s2 s3 s4 s5 s6 s7 s8 s9 f0 f1 f2 f3 f4 f5 f6 f7 f8 f9; obtain ⟨s0, s1, s2, s3, s4, s5, s6, s7, s8, s9⟩ := pOb_cells (h3.blk mem1); obtain ⟨f0, f1, f2, f3, f4, f5, f6, f7, f8, f9⟩ := pOb_free (h3.blk mem1)))
  have y7 := h3.pTo2 t3
  clear h3; clear s0 s1 s2 s3 s4 s5 s6 s7 s8 s9 f0 f1 f2 f3 f4 f5 f6 f7 f8 f9
  generalize (z3.setCell ⟨xb, 2, none⟩ (.bool t3)) = x7 at y7 ⊢
  obtain ⟨s0, s1, s2, s3, s4, s5, s6, s7, s8, s9⟩ := pOb_cells (y7.blk mem1); obtain ⟨f0, f1, f2, f3, f4, f5, f6, f7, f8, f9⟩ := pOb_free (y7.blk mem1)
  go_upto_region 9 with (first | (go_at_call 47; (refine (du_any y7 at0 mem1 1 0 A4.out.1 A4.out.2).mono ?_); rintro e z4 ⟨rfl, h4⟩; simp only [set0] at h4; clear y7; clear s0 s1 s2 s3 s4 s5 s6 s7 s8 s9 f0 f1 f2 f3 f4 f5 f6 f7 f8 f9; obtain ⟨s0, s1, s2, s3, s4, s5, s6, s7, s8, s9⟩ := pOb_cells (h4.blk mem1); obtain ⟨f0, f1, f2, f3, f4, f5, f6, f7, f8, f9⟩ := pOb_free (h4.blk mem1)))
  go_upto_region 10 with (first | (go_at_call 37; (refine (due_any h4 at0 mem1 0 9 A5.out).mono ?_); rintro e z5 ⟨rfl, h5⟩; simp only [set0] at h5; clear h4; clear s0 s1 s2 s3 s4 s5 s6 s7 s8 s9 f0 f1 f2 f3 f4 f5 f6 f7 f8 f9; obtain ⟨s0, s1, s2, s3, s4, s5, s6, s7, s8, s9⟩ := pOb_cells (h5.blk mem1); obtain ⟨f0, f1, f2, f3, f4, f5, f6, f7, f8, f9⟩ := pOb_free (h5.blk mem1)))
  go_upto_region 11 with (first | (go_at_call 37; (refine (due_any h5 at0 mem1 31 3 A6.out).mono ?_); rintro e z6 ⟨rfl, h6⟩; simp only [set0] at h6; clear h5; clear s0 s1 s2 s3 s4 s5 s6 s7 s8 s9 f0 f1 f2 f3 f4 f5 f6 f7 f8 f9; obtain ⟨s0, s1, s2, s3, s4, s5, s6, s7, s8, s9⟩ := pOb_cells (h6.blk mem1); obtain ⟨f0, f1, f2, f3, f4, f5, f6, f7, f8, f9⟩ := pOb_free (h6.blk mem1)) | (go_at_call 37; (refine (due_any h6 at0 mem1 31 3 A7.out).mono ?_); rintro e z7 ⟨rfl, h7⟩; simp only [set0] at h7; clear h6; clear s0 s1 s2 s3 s4 s5 s6 s7 s8 s9 f0 f1 f2 f3 f4 f5 f6 f7 f8 f9; obtain ⟨s0, s1, s2, s3, s4, s5, s6, s7, s8, s9⟩ := pOb_cells (h7.blk mem1); obtain ⟨f0, f1, f2, f3, f4, f5, f6, f7, f8, f9⟩ := pOb_free (h7.blk mem1)))
  have y10 := (h7.pTo3 (1 + (v6 : Int))).pTo4 (1 + (v7 : Int))
  clear h7; clear s0 s1 s2 s3 s4 s5 s6 s7 s8 s9 f0 f1 f2 f3 f4 f5 f6 f7 f8 f9
  generalize ((z7.setCell ⟨xb, 3, none⟩ (.int .i64 (1 + (v6 : Int)))).setCell ⟨xb, 4, none⟩ (.int .i64 (1 + (v7 : Int)))) = x10 at y10 ⊢
  obtain ⟨s0, s1, s2, s3, s4, s5, s6, s7, s8, s9⟩ := pOb_cells (y10.blk mem1); obtain ⟨f0, f1, f2, f3, f4, f5, f6, f7, f8, f9⟩ := pOb_free (y10.blk mem1)
  go_upto_region 12 with (first | (go_at_call 47; (refine (du_any y10 at0 mem1 3 0 A8.out.1 A8.out.2).mono ?_); rintro e z8 ⟨rfl, h8⟩; simp only [set0] at h8; clear y10; clear s0 s1 s2 s3 s4 s5 s6 s7 s8 s9 f0 f1 f2 f3 f4 f5 f6 f7 f8 f9; obtain ⟨s0, s1, s2, s3, s4, s5, s6, s7, s8, s9⟩ := pOb_cells (h8.blk mem1); obtain ⟨f0, f1, f2, f3, f4, f5, f6, f7, f8, f9⟩ := pOb_free (h8.blk mem1)))
  go_upto_region 13 with (first | (go_at_call 42; (refine (dse_any h8 at0 mem1 (-26) 25 A9.out).mono ?_); rintro e z9 ⟨rfl, h9⟩; simp only [set0] at h9; clear h8; clear s0 s1 s2 s3 s4 s5 s6 s7 s8 s9 f0 f1 f2 f3 f4 f5 f6 f7 f8 f9; obtain ⟨s0, s1, s2, s3, s4, s5, s6, s7, s8, s9⟩ := pOb_cells (h9.blk mem1); obtain ⟨f0, f1, f2, f3, f4, f5, f6, f7, f8, f9⟩ := pOb_free (h9.blk mem1)) | (go_at_call 42; (refine (dse_any h9 at0 mem1 (-26) 25 A10.out).mono ?_); rintro e z10 ⟨rfl, h10⟩; simp only [set0] at h10; clear h9; clear s0 s1 s2 s3 s4 s5 s6 s7 s8 s9 f0 f1 f2 f3 f4 f5 f6 f7 f8 f9; obtain ⟨s0, s1, s2, s3, s4, s5, s6, s7, s8, s9⟩ := pOb_cells (h10.blk mem1); obtain ⟨f0, f1, f2, f3, f4, f5, f6, f7, f8, f9⟩ := pOb_free (h10.blk mem1)) | (go_at_call 42; (refine (dse_any h10 at0 mem1 (-12) 12 A11.out).mono ?_); rintro e z11 ⟨rfl, h11⟩; simp only [set0] at h11; clear h10; clear s0 s1 s2 s3 s4 s5 s6 s7 s8 s9 f0 f1 f2 f3 f4 f5 f6 f7 f8 f9; obtain ⟨s0, s1, s2, s3, s4, s5, s6, s7, s8, s9⟩ := pOb_cells (h11.blk mem1); obtain ⟨f0, f1, f2, f3, f4, f5, f6, f7, f8, f9⟩ := pOb_free (h11.blk mem1)))
  have y12 := ((h11.pTo5 g9).pTo6 g10).pTo7 g11
  clear h11; clear s0 s1 s2 s3 s4 s5 s6 s7 s8 s9 f0 f1 f2 f3 f4 f5 f6 f7 f8 f9
  generalize (((z11.setCell ⟨xb, 5, none⟩ (.int .i64 g9)).setCell ⟨xb, 6, none⟩ (.int .i64 g10)).setCell ⟨xb, 7, none⟩ (.int .i64 g11)) = x12 at y12 ⊢
  obtain ⟨s0, s1, s2, s3, s4, s5, s6, s7, s8, s9⟩ := pOb_cells (y12.blk mem1); obtain ⟨f0, f1, f2, f3, f4, f5, f6, f7, f8, f9⟩ := pOb_free (y12.blk mem1)
  go_upto_region 14 with (first | (go_at_call 47; (refine (du_any y12 at0 mem1 1 1 A12.out.1 A12.out.2).mono ?_); rintro e z12 ⟨rfl, h12⟩; simp only [set0] at h12; clear y12; clear s0 s1 s2 s3 s4 s5 s6 s7 s8 s9 f0 f1 f2 f3 f4 f5 f6 f7 f8 f9; obtain ⟨s0, s1, s2, s3, s4, s5, s6, s7, s8, s9⟩ := pOb_cells (h12.blk mem1); obtain ⟨f0, f1, f2, f3, f4, f5, f6, f7, f8, f9⟩ := pOb_free (h12.blk mem1)) | (go_at_call 47; (refine (du_any h12 at0 mem1 1 1 A13.out.1 A13.out.2).mono ?_); rintro e z13 ⟨rfl, h13⟩; simp only [set0] at h13; clear h12; clear s0 s1 s2 s3 s4 s5 s6 s7 s8 s9 f0 f1 f2 f3 f4 f5 f6 f7 f8 f9; obtain ⟨s0, s1, s2, s3, s4, s5, s6, s7, s8, s9⟩ := pOb_cells (h13.blk mem1); obtain ⟨f0, f1, f2, f3, f4, f5, f6, f7, f8, f9⟩ := pOb_free (h13.blk mem1)))
  have y13 := (h13.pTo8 t12).pTo9 t13
  clear h13; clear s0 s1 s2 s3 s4 s5 s6 s7 s8 s9 f0 f1 f2 f3 f4 f5 f6 f7 f8 f9
  generalize ((z13.setCell ⟨xb, 8, none⟩ (.bool t12)).setCell ⟨xb, 9, none⟩ (.bool t13)) = x13 at y13 ⊢
  obtain ⟨s0, s1, s2, s3, s4, s5, s6, s7, s8, s9⟩ := pOb_cells (y13.blk mem1); obtain ⟨f0, f1, f2, f3, f4, f5, f6, f7, f8, f9⟩ := pOb_free (y13.blk mem1)
  go_upto_region 15 with (first | (go_at_call 47; (refine (du_any y13 at0 mem1 1 0 A14.out.1 A14.out.2).mono ?_); rintro e z14 ⟨rfl, h14⟩; simp only [set0] at h14; clear y13; clear s0 s1 s2 s3 s4 s5 s6 s7 s8 s9 f0 f1 f2 f3 f4 f5 f6 f7 f8 f9; obtain ⟨s0, s1, s2, s3, s4, s5, s6, s7, s8, s9⟩ := pOb_cells (h14.blk mem1); obtain ⟨f0, f1, f2, f3, f4, f5, f6, f7, f8, f9⟩ := pOb_free (h14.blk mem1)))
  clear s0 s1 s2 s3 s4 s5 s6 s7 s8 s9 f0 f1 f2 f3 f4 f5 f6 f7 f8 f9
  have hy := h14
  clear h14
  by_cases c17 : e17 = 0
  case neg =>
    have q17 : (e17 == 0) = false := by simp [c17]
    have x18 : e18 = e17 := by have := B18.out; rw [if_neg c17] at this; exact this.symm
    have HXS := Lib.hid (show x = p00 ∧ er = e17 by obtain ⟨y1, y2⟩ := HX.out; rw [x18] at y1 y2; rw [if_neg c17] at y2; exact ⟨y2, y1⟩)
    clear x18 c17
    obtain ⟨c0, j0⟩ := one_cell (hy.blk (List.mem_cons_self ..))
    obtain ⟨r0, r1, r2, r3, r4, r5, r6, r7, r8, r9⟩ := pOb_free (hy.blk mem3)
    obtain ⟨t_0, t_1, t_2, t_3, t_4, t_5, t_6, t_7, t_8, t_9⟩ := pOb_cells (hy.blk mem3)
    have ne1 : ¬ m = eb := hy.apart (i := 3) (j := 0) (by decide) rfl rfl
    have ne2 : ¬ eb = m := fun h => ne1 h.symm
    have GR := Lib.hid hy
    clear hy
    go_wp2_with (fail)
    try clear A1
    try clear A2
    try clear A3
    try clear A4
    try clear A5
    try clear A6
    try clear A7
    try clear A8
    try clear A12
    try clear A13
    try clear A14
    try clear A9
    try clear A10
    try clear A11
    try clear B18
    try clear HX
    try clear HE
    try clear u6
    try clear u7
    go_region
    go_wp2_with (fail)
    exact bodyPost_ret (results_ct rfl rfl (pTo_load_drew (GR.out.mid8.blk (List.mem_cons_self ..)) p00)) rfl ⟨by rw [HXS.out.1, HXS.out.2]; rfl, (GR.out.mid8.pTo p00).drop.drop.drop.drop.tail.drew⟩
  subst c17
  have x18 : enE s i17 false = e18 := by have := B18.out; rwa [if_pos rfl] at this
  have HE : Hid (∀ w L F, Hp W w L F → L[0]? = some (aRd r s i17) → Calls Try.prog 51 #[.pointer (some ⟨r, 0, none⟩), .bool false] w fun e w' => e = .returned (.int .i64 e18) ∧ Hp W w' (L.set 0 (aRd r s (enI s i17 false))) F) := Lib.hid (fun w L F h hk => by have := end_any h 0 hk false; rwa [x18] at this)
  clear x18
  obtain ⟨c0, j0⟩ := one_cell (hy.blk (List.mem_cons_self ..))
  obtain ⟨cr, -⟩ := one_cell (hy.blk mem2)
  go_upto_region 17 with (first | (go_at_call 51; (with_reducible refine (HE.out _ _ _ hy at0).mono ?_); rintro e w17 ⟨rfl, h17⟩; simp only [set0] at h17; clear hy c0 j0 cr; obtain ⟨c0, j0⟩ := one_cell (h17.blk (List.mem_cons_self ..))))
  have h18 := h17.f_set e18
  clear h17 c0 j0
  generalize (w17.setCell ⟨eb, 0, none⟩ (.int .i64 e18)) = w18 at h18 ⊢
  by_cases c18 : e18 = 0
  case neg =>
    have q18 : (e18 == 0) = false := by simp [c18]
    have HXS := Lib.hid (show x = p00 ∧ er = e18 by obtain ⟨y1, y2⟩ := HX.out; rw [if_neg c18] at y2; exact ⟨y2, y1⟩)
    clear c18
    obtain ⟨c0, j0⟩ := one_cell (h18.blk (List.mem_cons_self ..))
    obtain ⟨r0, r1, r2, r3, r4, r5, r6, r7, r8, r9⟩ := pOb_free (h18.blk mem3)
    obtain ⟨t_0, t_1, t_2, t_3, t_4, t_5, t_6, t_7, t_8, t_9⟩ := pOb_cells (h18.blk mem3)
    have ne1 : ¬ m = eb := h18.apart (i := 3) (j := 0) (by decide) rfl rfl
    have ne2 : ¬ eb = m := fun h => ne1 h.symm
    have GR := Lib.hid h18
    clear h18
    go_wp2_with (fail)
    try clear A1
    try clear A2
    try clear A3
    try clear A4
    try clear A5
    try clear A6
    try clear A7
    try clear A8
    try clear A12
    try clear A13
    try clear A14
    try clear A9
    try clear A10
    try clear A11
    try clear B18
    try clear HX
    try clear HE
    try clear u6
    try clear u7
    go_region
    go_wp2_with (fail)
    exact bodyPost_ret (results_ct rfl rfl (pTo_load_drew (GR.out.mid8.blk (List.mem_cons_self ..)) p00)) rfl ⟨by rw [HXS.out.1, HXS.out.2]; rfl, (GR.out.mid8.pTo p00).drop.drop.drop.drop.tail.drew⟩
  subst c18
  have HXS := Lib.hid (show x = _ ∧ er = 0 by obtain ⟨y1, y2⟩ := HX.out; rw [if_pos rfl] at y2; exact ⟨y2, y1⟩)
  obtain ⟨c0, j0⟩ := one_cell (h18.blk (List.mem_cons_self ..))
  obtain ⟨s0, s1, s2, s3, s4, s5, s6, s7, s8, s9⟩ := pOb_cells (h18.blk mem1)
  obtain ⟨r0, r1, r2, r3, r4, r5, r6, r7, r8, r9⟩ := pOb_free (h18.blk mem3)
  obtain ⟨t_0, t_1, t_2, t_3, t_4, t_5, t_6, t_7, t_8, t_9⟩ := pOb_cells (h18.blk mem3)
  have GR := Lib.hid h18
  clear h18
  try clear A1
  try clear A2
  try clear A3
  try clear A4
  try clear A5
  try clear A6
  try clear A7
  try clear A8
  try clear A12
  try clear A13
  try clear A14
  try clear A9
  try clear A10
  try clear A11
  try clear B18
  try clear HX
  try clear HE
  try clear u6
  try clear u7
  go_wp2_with (fail)
  exact bodyPost_ret (results_ct rfl rfl (pTo_load8 (GR.out.mid8.blk (List.mem_cons_self ..)) ⟨v1, v2, t3, 1 + (v6 : Int), 1 + (v7 : Int), g9, g10, g11, t12, t13⟩)) rfl ⟨by rw [HXS.out.1, HXS.out.2]; rfl, (GR.out.mid8.pTo ⟨v1, v2, t3, 1 + (v6 : Int), 1 + (v7 : Int), g9, g10, g11, t12, t13⟩).drop.drop.drop.drop.tail⟩
end Go.Proofs.Ytkaoeilijdeioaa
