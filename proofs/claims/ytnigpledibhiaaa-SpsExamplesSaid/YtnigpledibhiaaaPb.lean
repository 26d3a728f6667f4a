/- The program's Decode of sequence parameter sets. -/
import Derived.Test.YtnigpledibhiaaaPa
import Derived.Test.YtnigpledibhiaaaPo
import Derived.Deep.CutBlock
import Derived.WalkMore
import Derived.ScopeJumps
namespace Go.Proofs.Ytnigpledibhiaaa
open Go.RowKit
set_option linter.unusedVariables false
set_option maxRecDepth 100000
set_option linter.unusedSimpArgs false

/-- A scope whose label is jumped to from ahead of it. -/
theorem wp_scope_fwd {P : Program} {a : Act} {w : World} {Q : Exit → Act → World → Prop} {c rest : Code} (l : Nat) (hf : findLabel c l = some rest)
    (first : c.wp P (Exit.jump l (fun a w => rest.wp P (Exit.noGoto Q) a w) Q) a w) : (Code.scope c).wp P Q a w :=
  wp_scope_jumps l _ (fun _ _ => 0) hf first (fun a w h => wp_mono h (fun e a w hq => by
    cases e with
    | goto l' => exact hq.elim
    | normal => exact hq
    | exit id => exact hq
    | ret => exact hq
    | panic ch => exact hq
    | outgrown => exact hq))
theorem jump_ret {l : Nat} {J : Act → World → Prop} {Q : Exit → Act → World → Prop} {a : Act} {w : World} : Exit.jump l J Q .ret a w = Q .ret a w := rfl
theorem jump_goto {l : Nat} {J : Act → World → Prop} {Q : Exit → Act → World → Prop} {a : Act} {w : World} (h : J a w) : Exit.jump l J Q (.goto l) a w := ⟨rfl, h⟩
theorem Hp.four {W w : World} {L : List AObj} {F : List (Nat × Obj)} (h : Hp W w L F) (A B C D : Obj) : Hp W ((((w.alloc A).alloc B).alloc C).alloc D) L ((w.heap.size + 1, B) :: (w.heap.size + 1 + 1 + 1, D) :: (w.heap.size + 1 + 1, C) :: (w.heap.size, A) :: F) := by
  have g := (((h.alloc A).alloc B).alloc C).alloc D
  simp only [World.size_alloc] at g
  refine g.reorder ?_
  refine List.Perm.trans (List.Perm.cons _ (List.Perm.swap _ _ _)) ?_
  exact List.Perm.swap _ _ _

theorem sTo_load {w : World} {b : Nat} {y : SpsD} (h : w.heap[b]? = some (sOb y)) (x : SpsD) : (loadVar 23 ⟨b, 0, none⟩).run Try.prog (sTo w b x) = .ok (sv x) (sTo w b x) := sOb_load (sTo_blk h x)
theorem Hp.last5 {W w : World} {L : List AObj} {F : List (Nat × Obj)} {a b c d r : Nat × Obj} (h : Hp W w L (a :: b :: c :: d :: r :: F)) : Hp W w L (r :: a :: b :: c :: d :: F) := h.reorder (List.perm_middle (l₁ := [a, b, c, d]))
theorem kd_not {b : Bool} {wr e : Int} {i : Nat} {e' : Int} {i' : Nat} (h : kdR b wr (e, i) = (e', i')) (he : e ≠ 0) : e' = e := by
  unfold kdR at h; rw [if_neg (by simp [he])] at h; exact (Prod.mk.inj h).1.symm
theorem kd_so {wr e : Int} {i : Nat} {e' : Int} {i' : Nat} (h : kdR true wr (e, i) = (e', i')) : e' = e ∧ i' = i := by
  unfold kdR at h; rw [if_neg (by simp)] at h; exact ⟨(Prod.mk.inj h).1.symm, (Prod.mk.inj h).2.symm⟩
theorem kd_no {wr : Int} {i : Nat} {e' : Int} {i' : Nat} (h : kdR false wr (0, i) = (e', i')) : e' = wr := by
  unfold kdR at h; rw [if_pos ⟨rfl, rfl⟩] at h; exact (Prod.mk.inj h).1.symm
theorem nm_not {s : ByteArray} {m : Nat} {wr e : Int} {i v : Nat} {e' : Int} {i' : Nat} (h : nmR s m wr (e, i) = (v, e', i')) (he : e ≠ 0) : e' = e := by
  rw [nmR_not _ _ _ _ he] at h; exact (Prod.mk.inj (Prod.mk.inj h).2).1.symm
theorem fx_val {s : ByteArray} {n i v : Nat} {e : Int} {j : Nat} (h : fxR s n (0, i) = (v, e, j)) (hv : v ≠ 0) : e = 0 := by
  rw [fxR_zero] at h
  obtain ⟨h1, h2⟩ := Prod.mk.inj h
  have h3 := (Prod.mk.inj h2).1
  by_cases c : uE s i n = 0
  · exact h3.symm.trans c
  · exfalso; apply hv; rw [← h1]; unfold uV; rw [if_neg c]
theorem fx_not {s : ByteArray} {m : Nat} {e : Int} {i v : Nat} {e' : Int} {i' : Nat} (h : fxR s m (e, i) = (v, e', i')) (he : e ≠ 0) : v = 0 ∧ e' = e := by
  rw [fxR_not _ _ _ he] at h; exact ⟨(Prod.mk.inj h).1.symm, (Prod.mk.inj (Prod.mk.inj h).2).1.symm⟩

set_option maxHeartbeats 8000000 in
theorem sdec_any {W w : World} {L : List AObj} {F : List (Nat × Obj)} (h : Hp W w L F) (s : ByteArray) (hs : s.size ≤ 2 ^ 48) {x : SpsD} {er : Int} (hx : SpsDec s x er) :
    Calls Try.prog 14 #[.string s] w fun e w' => e = .returned (.tuple #[sv x, .int .i64 er]) ∧ Hp W w' L F := by
  obtain ⟨v, e, i, hr, hx1, hx2⟩ := hx
  obtain ⟨a1, a2, a3, a4, a5, a6, a7, a8, a9, b9, a11, a12, b12, a14, b14, b15⟩ := hr
  simp only [spsOf] at hx2
  generalize v 1 = v1 at *
  generalize v 2 = v2 at *
  generalize v 3 = v3 at *
  generalize v 4 = v4 at *
  generalize v 5 = v5 at *
  generalize v 6 = v6 at *
  generalize v 7 = v7 at *
  generalize v 8 = v8 at *
  generalize v 9 = v9 at *
  generalize v 11 = v11 at *
  generalize v 12 = v12 at *
  generalize v 14 = v14 at *
  generalize e 1 = e1 at *
  generalize e 2 = e2 at *
  generalize e 3 = e3 at *
  generalize e 4 = e4 at *
  generalize e 5 = e5 at *
  generalize e 6 = e6 at *
  generalize e 7 = e7 at *
  generalize e 8 = e8 at *
  generalize e 9 = e9 at *
  generalize e 10 = e10 at *
  generalize e 11 = e11 at *
  generalize e 12 = e12 at *
  generalize e 13 = e13 at *
  generalize e 14 = e14 at *
  generalize e 15 = e15 at *
  generalize e 16 = e16 at *
  generalize i 1 = i1 at *
  generalize i 2 = i2 at *
  generalize i 3 = i3 at *
  generalize i 4 = i4 at *
  generalize i 5 = i5 at *
  generalize i 6 = i6 at *
  generalize i 7 = i7 at *
  generalize i 8 = i8 at *
  generalize i 9 = i9 at *
  generalize i 10 = i10 at *
  generalize i 11 = i11 at *
  generalize i 12 = i12 at *
  generalize i 13 = i13 at *
  generalize i 14 = i14 at *
  generalize i 15 = i15 at *
  clear v e i
  have u1 : IntKind.u8.wrap (v1 : Int) = (v1 : Int) := by have := fxR_lt a1; rw [IntKind.wrap_u8]; omega
  have u2 : IntKind.u8.wrap (v2 : Int) = (v2 : Int) := by have := fxR_lt a2; rw [IntKind.wrap_u8]; omega
  have u3 : IntKind.u8.wrap (v3 : Int) = (v3 : Int) := by have := fxR_lt a3; rw [IntKind.wrap_u8]; omega
  have u5 : IntKind.i64.wrap (4 + (v5 : Int)) = 4 + (v5 : Int) := by have := nmR_lt a5; rw [IntKind.wrap_i64]; omega
  have u7 : IntKind.i64.wrap (4 + (v7 : Int)) = 4 + (v7 : Int) := by have := nmR_lt a7; rw [IntKind.wrap_i64]; omega
  have u11 : IntKind.i64.wrap (1 + (v11 : Int)) = 1 + (v11 : Int) := by have := nmR_lt a11; rw [IntKind.wrap_i64]; omega
  have u12 : IntKind.i64.wrap (1 + (v12 : Int)) = 1 + (v12 : Int) := by have := nmR_lt a12; rw [IntKind.wrap_i64]; omega
  have A1 := Lib.hid a1
  have A2 := Lib.hid a2
  have A3 := Lib.hid a3
  have A4 := Lib.hid a4
  have A5 := Lib.hid a5
  have A6 := Lib.hid a6
  have A7 := Lib.hid a7
  have A8 := Lib.hid a8
  have A9 := Lib.hid a9
  have A11 := Lib.hid a11
  have A12 := Lib.hid a12
  have A14 := Lib.hid a14
  have B9 := Lib.hid b9
  have B12 := Lib.hid b12
  have B14 := Lib.hid b14
  have B15 := Lib.hid b15
  have l9 := fxR_lt a9
  have ok11 : e11 = 0 → v11 ≤ 127 := fun e => (nmR_ok (e ▸ a11) (by decide)).2.2.2.1
  have ok12 : e12 = 0 → v12 ≤ 127 := fun e => (nmR_ok (e ▸ a12) (by decide)).2.2.2.1
  clear a1 a2 a3 a4 a5 a6 a7 a8 a9 a11 a12 a14 b9 b12 b14 b15
  have hR := read_any (h.alloc (sOb s00)) s hs
  have hR' : Calls Try.prog 31 #[.string s] (w.alloc (.cells #[.int .u8 0, .int .u8 0, .int .u8 0, .int .i64 0, .int .i64 0, .int .i64 0, .int .i64 0, .int .i64 0, .int .i64 0] 23 (0, 0))) (fun e w' => ∃ r, e = .returned (.pointer (some ⟨r, 0, none⟩)) ∧ Hp W w' (aRd r s 0 :: L) ((w.heap.size, sOb s00) :: F)) := hR
  have HR := Lib.hid hR'
  have HX := Lib.hid (And.intro hx1 hx2)
  clear h hs hR hR' hx1 hx2
  go_enter Try.func14, Try.ntmps14
  go_wp2
  refine wp_scope_fwd 0 rfl ?_
  go_upto_region 14 with (first | (go_at_call 31; (with_reducible refine HR.out.mono ?_); rintro e w0 ⟨r, rfl, h0⟩) | (go_at_call 33; (refine (fixed_any (h0.four _ _ _ (sOb s00)) at0 mem2 mem1 8 (by decide) A1.out).mono ?_); rintro e w1 ⟨rfl, h1⟩; simp only [set0] at h1; obtain ⟨ce, fe⟩ := cells_solo (h1.blk (List.mem_cons_self ..)); obtain ⟨s0, s1, s2, s3, s4, s5, s6, s7, s8⟩ := sOb_cells (h1.blk mem1); obtain ⟨f0, f1, f2, f3, f4, f5, f6, f7, f8⟩ := sOb_free (h1.blk mem1)) | (go_at_call 33; (refine (fixed_any h1 at0 mem2 mem1 8 (by decide) A2.out).mono ?_); rintro e w2 ⟨rfl, h2⟩; simp only [set0] at h2; clear ce fe s0 s1 s2 s3 s4 s5 s6 s7 s8 f0 f1 f2 f3 f4 f5 f6 f7 f8; clear h1; obtain ⟨ce, fe⟩ := cells_solo (h2.blk (List.mem_cons_self ..)); obtain ⟨s0, s1, s2, s3, s4, s5, s6, s7, s8⟩ := sOb_cells (h2.blk mem1); obtain ⟨f0, f1, f2, f3, f4, f5, f6, f7, f8⟩ := sOb_free (h2.blk mem1)) | (go_at_call 33; (refine (fixed_any h2 at0 mem2 mem1 8 (by decide) A3.out).mono ?_); rintro e w3 ⟨rfl, h3⟩; simp only [set0] at h3; clear ce fe s0 s1 s2 s3 s4 s5 s6 s7 s8 f0 f1 f2 f3 f4 f5 f6 f7 f8; clear h2; obtain ⟨ce, fe⟩ := cells_solo (h3.blk (List.mem_cons_self ..)); obtain ⟨s0, s1, s2, s3, s4, s5, s6, s7, s8⟩ := sOb_cells (h3.blk mem1); obtain ⟨f0, f1, f2, f3, f4, f5, f6, f7, f8⟩ := sOb_free (h3.blk mem1)) | (go_at_call 35; (refine (number_any (((h3.sTo0 _).sTo1 _).sTo2 _) at0 mem2 mem1 31 (by decide) 3 A4.out).mono ?_); rintro e w4 ⟨rfl, h4⟩; simp only [set0] at h4; clear ce fe s0 s1 s2 s3 s4 s5 s6 s7 s8 f0 f1 f2 f3 f4 f5 f6 f7 f8; clear h3; obtain ⟨ce, fe⟩ := cells_solo (h4.blk (List.mem_cons_self ..)); obtain ⟨s0, s1, s2, s3, s4, s5, s6, s7, s8⟩ := sOb_cells (h4.blk mem1); obtain ⟨f0, f1, f2, f3, f4, f5, f6, f7, f8⟩ := sOb_free (h4.blk mem1)) | (go_at_call 35; (refine (number_any (h4.sTo3 _) at0 mem2 mem1 12 (by decide) 3 A5.out).mono ?_); rintro e w5 ⟨rfl, h5⟩; simp only [set0] at h5; clear ce fe s0 s1 s2 s3 s4 s5 s6 s7 s8 f0 f1 f2 f3 f4 f5 f6 f7 f8; clear h4; obtain ⟨ce, fe⟩ := cells_solo (h5.blk (List.mem_cons_self ..)); obtain ⟨s0, s1, s2, s3, s4, s5, s6, s7, s8⟩ := sOb_cells (h5.blk mem1); obtain ⟨f0, f1, f2, f3, f4, f5, f6, f7, f8⟩ := sOb_free (h5.blk mem1)) | (go_at_call 35; (refine (number_any (h5.sTo4 _) at0 mem2 mem1 0 (by decide) 9 A6.out).mono ?_); rintro e w6 ⟨rfl, h6⟩; simp only [set0] at h6; clear ce fe s0 s1 s2 s3 s4 s5 s6 s7 s8 f0 f1 f2 f3 f4 f5 f6 f7 f8; clear h5; obtain ⟨ce, fe⟩ := cells_solo (h6.blk (List.mem_cons_self ..)); obtain ⟨s0, s1, s2, s3, s4, s5, s6, s7, s8⟩ := sOb_cells (h6.blk mem1); obtain ⟨f0, f1, f2, f3, f4, f5, f6, f7, f8⟩ := sOb_free (h6.blk mem1)) | (go_at_call 35; (refine (number_any h6 at0 mem2 mem1 12 (by decide) 3 A7.out).mono ?_); rintro e w7 ⟨rfl, h7⟩; simp only [set0] at h7; clear ce fe s0 s1 s2 s3 s4 s5 s6 s7 s8 f0 f1 f2 f3 f4 f5 f6 f7 f8; clear h6; obtain ⟨ce, fe⟩ := cells_solo (h7.blk (List.mem_cons_self ..)); obtain ⟨s0, s1, s2, s3, s4, s5, s6, s7, s8⟩ := sOb_cells (h7.blk mem1); obtain ⟨f0, f1, f2, f3, f4, f5, f6, f7, f8⟩ := sOb_free (h7.blk mem1)) | (go_at_call 35; (refine (number_any (h7.sTo5 _) at0 mem2 mem1 16 (by decide) 3 A8.out).mono ?_); rintro e w8 ⟨rfl, h8⟩; simp only [set0] at h8; clear ce fe s0 s1 s2 s3 s4 s5 s6 s7 s8 f0 f1 f2 f3 f4 f5 f6 f7 f8; clear h7; obtain ⟨ce, fe⟩ := cells_solo (h8.blk (List.mem_cons_self ..)); obtain ⟨s0, s1, s2, s3, s4, s5, s6, s7, s8⟩ := sOb_cells (h8.blk mem1); obtain ⟨f0, f1, f2, f3, f4, f5, f6, f7, f8⟩ := sOb_free (h8.blk mem1)))
  have g8 := h8.sTo6 v8
  clear ce fe s0 s1 s2 s3 s4 s5 s6 s7 s8 f0 f1 f2 f3 f4 f5 f6 f7 f8
  clear h8
  generalize (w8.setCell ⟨w0.heap.size + 1 + 1 + 1, 6, none⟩ (.int .i64 v8)) = w9 at g8 ⊢
  generalize w0.heap.size = n at *
  generalize w.heap.size = m at *
  have ne1 : ¬ m = n + 1 := g8.apart (i := 4) (j := 0) (by decide) rfl rfl
  have ne2 : ¬ n + 1 = m := fun h => ne1 h.symm
  obtain ⟨ce, fe⟩ := cells_solo (g8.blk (List.mem_cons_self ..)); obtain ⟨s0, s1, s2, s3, s4, s5, s6, s7, s8⟩ := sOb_cells (g8.blk mem1); obtain ⟨f0, f1, f2, f3, f4, f5, f6, f7, f8⟩ := sOb_free (g8.blk mem1); obtain ⟨r0, r1, r2, r3, r4, r5, r6, r7, r8⟩ := sOb_free (g8.blk mem4); obtain ⟨t0, t1, t2, t3, t4, t5, t6, t7, t8⟩ := sOb_cells (g8.blk mem4)
  have G8 := Lib.hid g8
  clear g8
  by_cases c8 : e8 = 0
  case neg =>
    have d8 : (e8 == 0) = false := by simp [c8]
    have x9 := (fx_not A9.out c8).2
    have x10 := (kd_not B9.out (x9 ▸ c8)).trans x9
    have x11 := (nm_not A11.out (x10 ▸ c8)).trans x10
    have x12 := (nm_not A12.out (x11 ▸ c8)).trans x11
    have x13 := (kd_not B12.out (x12 ▸ c8)).trans x12
    have x14 := (fx_not A14.out (x13 ▸ c8)).2.trans x13
    have x15 := (kd_not B14.out (x14 ▸ c8)).trans x14
    have x16 : e16 = e8 := by have := B15.out; rw [if_neg (x15 ▸ c8)] at this; exact this.symm.trans x15
    have HXS := Lib.hid (show x = s00 ∧ er = e8 by obtain ⟨y1, y2⟩ := HX.out; rw [x16] at y1 y2; rw [if_neg c8] at y2; exact ⟨y2, y1⟩)
    clear x9 x10 x11 x12 x13 x14 x15 x16 c8
    go_wp2_with (fail)
    go_step3
    refine And.intro rfl ?_
    go_wp2_with (fail)
    try clear s0
    try clear s1
    try clear s2
    try clear s3
    try clear s4
    try clear s5
    try clear s6
    try clear s7
    try clear s8
    try clear f0
    try clear f1
    try clear f2
    try clear f3
    try clear f4
    try clear f5
    try clear f6
    try clear f7
    try clear f8
    try clear A1
    try clear A2
    try clear A3
    try clear A4
    try clear A5
    try clear A6
    try clear A7
    try clear A8
    try clear A9
    try clear A11
    try clear A12
    try clear A14
    try clear B9
    try clear B12
    try clear B14
    try clear B15
    try clear HX
    try clear HR
    try clear HE
    try clear u1
    try clear u2
    try clear u3
    try clear u5
    try clear u7
    try clear u11
    try clear u12
    try clear cr
    try clear fe
    try generalize (Value.func (Fn.func 33) _ _) = vf
    try generalize (Value.func (Fn.func 35) _ _) = vg
    go_region
    go_wp2_with (fail)
    rw [Exit.noGoto_ret]
    refine bodyPost_ret (results_ct rfl rfl (sTo_load_drew (G8.out.last5.blk (List.mem_cons_self ..)) s00)) rfl ⟨by rw [HXS.out.1, HXS.out.2]; rfl, (G8.out.last5.sTo s00).drop.drop.drop.drop.drop.tail.drew⟩
  subst c8
  have l92 : v9 = 1 ∨ v9 = 0 := by omega
  clear l9
  rcases l92 with rfl | rfl
  · have x9 := fx_val A9.out (by decide)
    subst x9
    have x10 := kd_no B9.out
    subst x10
    have x11 := nm_not A11.out (by decide)
    have x12 := (nm_not A12.out (by rw [x11]; decide)).trans x11
    have x13 := (kd_not B12.out (by rw [x12]; decide)).trans x12
    have x14 := (fx_not A14.out (by rw [x13]; decide)).2.trans x13
    have x15 := (kd_not B14.out (by rw [x14]; decide)).trans x14
    have x16 : e16 = 9 := by have := B15.out; rw [if_neg (by rw [x15]; decide)] at this; exact this.symm.trans x15
    have HXS := Lib.hid (show x = s00 ∧ er = 9 by obtain ⟨y1, y2⟩ := HX.out; rw [x16] at y1 y2; rw [if_neg (by decide)] at y2; exact ⟨y2, y1⟩)
    clear x11 x12 x13 x14 x15 x16
    go_wp2_with (first | (go_at_call 33; (refine (fixed_any G8.out at0 mem2 mem1 1 (by decide) A9.out).mono ?_); rintro e w9 ⟨rfl, h9⟩; simp only [set0] at h9; clear ce fe s0 s1 s2 s3 s4 s5 s6 s7 s8 f0 f1 f2 f3 f4 f5 f6 f7 f8 r0 r1 r2 r3 r4 r5 r6 r7 r8 t0 t1 t2 t3 t4 t5 t6 t7 t8; obtain ⟨ce, fe⟩ := cells_solo (h9.blk (List.mem_cons_self ..)); obtain ⟨s0, s1, s2, s3, s4, s5, s6, s7, s8⟩ := sOb_cells (h9.blk mem1); obtain ⟨f0, f1, f2, f3, f4, f5, f6, f7, f8⟩ := sOb_free (h9.blk mem1); obtain ⟨r0, r1, r2, r3, r4, r5, r6, r7, r8⟩ := sOb_free (h9.blk mem4); obtain ⟨t0, t1, t2, t3, t4, t5, t6, t7, t8⟩ := sOb_cells (h9.blk mem4)))
    have GR := Lib.hid (h9.e_set 9)
    go_step3
    refine And.intro rfl ?_
    go_wp2_with (fail)
    try clear s0
    try clear s1
    try clear s2
    try clear s3
    try clear s4
    try clear s5
    try clear s6
    try clear s7
    try clear s8
    try clear f0
    try clear f1
    try clear f2
    try clear f3
    try clear f4
    try clear f5
    try clear f6
    try clear f7
    try clear f8
    try clear A1
    try clear A2
    try clear A3
    try clear A4
    try clear A5
    try clear A6
    try clear A7
    try clear A8
    try clear A9
    try clear A11
    try clear A12
    try clear A14
    try clear B9
    try clear B12
    try clear B14
    try clear B15
    try clear HX
    try clear HR
    try clear HE
    try clear u1
    try clear u2
    try clear u3
    try clear u5
    try clear u7
    try clear u11
    try clear u12
    try clear cr
    try clear fe
    try generalize (Value.func (Fn.func 33) _ _) = vf
    try generalize (Value.func (Fn.func 35) _ _) = vg
    go_region
    go_wp2_with (fail)
    rw [Exit.noGoto_ret]
    exact bodyPost_ret (results_ct rfl rfl (sTo_load_drew (GR.out.last5.blk (List.mem_cons_self ..)) s00)) rfl ⟨by rw [HXS.out.1, HXS.out.2]; rfl, (GR.out.last5.sTo s00).drop.drop.drop.drop.drop.tail.drew⟩
  have x10 := kd_so B9.out
  by_cases c9 : e9 = 0
  case neg =>
    have d9 : (e9 == 0) = false := by simp [c9]
    have x11 := (nm_not A11.out (x10.1 ▸ c9)).trans x10.1
    have x12 := (nm_not A12.out (x11 ▸ c9)).trans x11
    have x13 := (kd_not B12.out (x12 ▸ c9)).trans x12
    have x14 := (fx_not A14.out (x13 ▸ c9)).2.trans x13
    have x15 := (kd_not B14.out (x14 ▸ c9)).trans x14
    have x16 : e16 = e9 := by have := B15.out; rw [if_neg (x15 ▸ c9)] at this; exact this.symm.trans x15
    have HXS := Lib.hid (show x = s00 ∧ er = e9 by obtain ⟨y1, y2⟩ := HX.out; rw [x16] at y1 y2; rw [if_neg c9] at y2; exact ⟨y2, y1⟩)
    clear x10 x11 x12 x13 x14 x15 x16 c9
    go_wp2_with (first | (go_at_call 33; (refine (fixed_any G8.out at0 mem2 mem1 1 (by decide) A9.out).mono ?_); rintro e w9 ⟨rfl, h9⟩; simp only [set0] at h9; clear ce fe s0 s1 s2 s3 s4 s5 s6 s7 s8 f0 f1 f2 f3 f4 f5 f6 f7 f8 r0 r1 r2 r3 r4 r5 r6 r7 r8 t0 t1 t2 t3 t4 t5 t6 t7 t8; obtain ⟨ce, fe⟩ := cells_solo (h9.blk (List.mem_cons_self ..)); obtain ⟨s0, s1, s2, s3, s4, s5, s6, s7, s8⟩ := sOb_cells (h9.blk mem1); obtain ⟨f0, f1, f2, f3, f4, f5, f6, f7, f8⟩ := sOb_free (h9.blk mem1); obtain ⟨r0, r1, r2, r3, r4, r5, r6, r7, r8⟩ := sOb_free (h9.blk mem4); obtain ⟨t0, t1, t2, t3, t4, t5, t6, t7, t8⟩ := sOb_cells (h9.blk mem4)))
    have GR := Lib.hid h9
    go_step3
    refine And.intro rfl ?_
    go_wp2_with (fail)
    try clear s0
    try clear s1
    try clear s2
    try clear s3
    try clear s4
    try clear s5
    try clear s6
    try clear s7
    try clear s8
    try clear f0
    try clear f1
    try clear f2
    try clear f3
    try clear f4
    try clear f5
    try clear f6
    try clear f7
    try clear f8
    try clear A1
    try clear A2
    try clear A3
    try clear A4
    try clear A5
    try clear A6
    try clear A7
    try clear A8
    try clear A9
    try clear A11
    try clear A12
    try clear A14
    try clear B9
    try clear B12
    try clear B14
    try clear B15
    try clear HX
    try clear HR
    try clear HE
    try clear u1
    try clear u2
    try clear u3
    try clear u5
    try clear u7
    try clear u11
    try clear u12
    try clear cr
    try clear fe
    try generalize (Value.func (Fn.func 33) _ _) = vf
    try generalize (Value.func (Fn.func 35) _ _) = vg
    go_region
    go_wp2_with (fail)
    rw [Exit.noGoto_ret]
    exact bodyPost_ret (results_ct rfl rfl (sTo_load_drew (GR.out.last5.blk (List.mem_cons_self ..)) s00)) rfl ⟨by rw [HXS.out.1, HXS.out.2]; rfl, (GR.out.last5.sTo s00).drop.drop.drop.drop.drop.tail.drew⟩
  subst c9
  obtain ⟨rfl, rfl⟩ := x10
  go_upto_region 19 with (first | (go_at_call 33; (refine (fixed_any G8.out at0 mem2 mem1 1 (by decide) A9.out).mono ?_); rintro e w9 ⟨rfl, h9⟩; simp only [set0] at h9; clear ce fe s0 s1 s2 s3 s4 s5 s6 s7 s8 f0 f1 f2 f3 f4 f5 f6 f7 f8 r0 r1 r2 r3 r4 r5 r6 r7 r8 t0 t1 t2 t3 t4 t5 t6 t7 t8; obtain ⟨ce, fe⟩ := cells_solo (h9.blk (List.mem_cons_self ..)); obtain ⟨s0, s1, s2, s3, s4, s5, s6, s7, s8⟩ := sOb_cells (h9.blk mem1); obtain ⟨f0, f1, f2, f3, f4, f5, f6, f7, f8⟩ := sOb_free (h9.blk mem1); obtain ⟨r0, r1, r2, r3, r4, r5, r6, r7, r8⟩ := sOb_free (h9.blk mem4); obtain ⟨t0, t1, t2, t3, t4, t5, t6, t7, t8⟩ := sOb_cells (h9.blk mem4)) | (go_at_call 35; (refine (number_any h9 at0 mem2 mem1 127 (by decide) 3 A11.out).mono ?_); rintro e w11 ⟨rfl, h11⟩; simp only [set0] at h11; clear ce fe s0 s1 s2 s3 s4 s5 s6 s7 s8 f0 f1 f2 f3 f4 f5 f6 f7 f8 r0 r1 r2 r3 r4 r5 r6 r7 r8 t0 t1 t2 t3 t4 t5 t6 t7 t8; clear h9; obtain ⟨ce, fe⟩ := cells_solo (h11.blk (List.mem_cons_self ..)); obtain ⟨s0, s1, s2, s3, s4, s5, s6, s7, s8⟩ := sOb_cells (h11.blk mem1); obtain ⟨f0, f1, f2, f3, f4, f5, f6, f7, f8⟩ := sOb_free (h11.blk mem1); obtain ⟨r0, r1, r2, r3, r4, r5, r6, r7, r8⟩ := sOb_free (h11.blk mem4); obtain ⟨t0, t1, t2, t3, t4, t5, t6, t7, t8⟩ := sOb_cells (h11.blk mem4)) | (go_at_call 35; (refine (number_any (h11.sTo7 _) at0 mem2 mem1 127 (by decide) 3 A12.out).mono ?_); rintro e w12 ⟨rfl, h12⟩; simp only [set0] at h12; clear ce fe s0 s1 s2 s3 s4 s5 s6 s7 s8 f0 f1 f2 f3 f4 f5 f6 f7 f8 r0 r1 r2 r3 r4 r5 r6 r7 r8 t0 t1 t2 t3 t4 t5 t6 t7 t8; clear h11; obtain ⟨ce, fe⟩ := cells_solo (h12.blk (List.mem_cons_self ..)); obtain ⟨s0, s1, s2, s3, s4, s5, s6, s7, s8⟩ := sOb_cells (h12.blk mem1); obtain ⟨f0, f1, f2, f3, f4, f5, f6, f7, f8⟩ := sOb_free (h12.blk mem1); obtain ⟨r0, r1, r2, r3, r4, r5, r6, r7, r8⟩ := sOb_free (h12.blk mem4); obtain ⟨t0, t1, t2, t3, t4, t5, t6, t7, t8⟩ := sOb_cells (h12.blk mem4)))
  have g12 := h12.sTo8 (1 + (v12 : Int))
  clear ce fe s0 s1 s2 s3 s4 s5 s6 s7 s8 f0 f1 f2 f3 f4 f5 f6 f7 f8 r0 r1 r2 r3 r4 r5 r6 r7 r8 t0 t1 t2 t3 t4 t5 t6 t7 t8
  clear h12
  generalize (w12.setCell ⟨n + 1 + 1 + 1, 8, none⟩ (.int .i64 (1 + (v12 : Int)))) = w13 at g12 ⊢
  obtain ⟨ce, fe⟩ := cells_solo (g12.blk (List.mem_cons_self ..)); obtain ⟨s0, s1, s2, s3, s4, s5, s6, s7, s8⟩ := sOb_cells (g12.blk mem1); obtain ⟨f0, f1, f2, f3, f4, f5, f6, f7, f8⟩ := sOb_free (g12.blk mem1); obtain ⟨r0, r1, r2, r3, r4, r5, r6, r7, r8⟩ := sOb_free (g12.blk mem4); obtain ⟨t0, t1, t2, t3, t4, t5, t6, t7, t8⟩ := sOb_cells (g12.blk mem4)
  have G12 := Lib.hid g12
  clear g12
  by_cases c12 : e12 = 0
  case neg =>
    have d12 : (e12 == 0) = false := by simp [c12]
    have x13 := kd_not B12.out c12
    have x14 := (fx_not A14.out (x13 ▸ c12)).2.trans x13
    have x15 := (kd_not B14.out (x14 ▸ c12)).trans x14
    have x16 : e16 = e12 := by have := B15.out; rw [if_neg (x15 ▸ c12)] at this; exact this.symm.trans x15
    have HXS := Lib.hid (show x = s00 ∧ er = e12 by obtain ⟨y1, y2⟩ := HX.out; rw [x16] at y1 y2; rw [if_neg c12] at y2; exact ⟨y2, y1⟩)
    clear x13 x14 x15 x16 c12 ok11 ok12
    go_wp2_with (fail)
    have GR := Lib.hid G12.out
    go_step3
    refine And.intro rfl ?_
    go_wp2_with (fail)
    try clear s0
    try clear s1
    try clear s2
    try clear s3
    try clear s4
    try clear s5
    try clear s6
    try clear s7
    try clear s8
    try clear f0
    try clear f1
    try clear f2
    try clear f3
    try clear f4
    try clear f5
    try clear f6
    try clear f7
    try clear f8
    try clear A1
    try clear A2
    try clear A3
    try clear A4
    try clear A5
    try clear A6
    try clear A7
    try clear A8
    try clear A9
    try clear A11
    try clear A12
    try clear A14
    try clear B9
    try clear B12
    try clear B14
    try clear B15
    try clear HX
    try clear HR
    try clear HE
    try clear u1
    try clear u2
    try clear u3
    try clear u5
    try clear u7
    try clear u11
    try clear u12
    try clear cr
    try clear fe
    try generalize (Value.func (Fn.func 33) _ _) = vf
    try generalize (Value.func (Fn.func 35) _ _) = vg
    go_region
    go_wp2_with (fail)
    rw [Exit.noGoto_ret]
    exact bodyPost_ret (results_ct rfl rfl (sTo_load_drew (GR.out.last5.blk (List.mem_cons_self ..)) s00)) rfl ⟨by rw [HXS.out.1, HXS.out.2]; rfl, (GR.out.last5.sTo s00).drop.drop.drop.drop.drop.tail.drew⟩
  subst c12
  have c11 : e11 = 0 := by
    by_cases c : e11 = 0
    · exact c
    · exact absurd (nm_not A12.out c).symm c
  replace ok11 := ok11 c11
  replace ok12 := ok12 rfl
  obtain ⟨Z, hZ⟩ : ∃ Z : Nat, Z = (v11 + 1) * (v12 + 1) := ⟨_, rfl⟩
  have hw : IntKind.i64.wrap ((1 + (v11 : Int)) * (1 + (v12 : Int))) = (Z : Int) := by
    have h1 : (v11 + 1) * (v12 + 1) ≤ 128 * 128 := Nat.mul_le_mul (by omega) (by omega)
    have h2 : (1 + (v11 : Int)) * (1 + (v12 : Int)) = (Z : Int) := by rw [hZ]; push_cast; rw [Int.add_comm 1, Int.add_comm 1]
    rw [h2, IntKind.wrap_i64]
    omega
  rw [← hZ] at B12
  clear ok11 ok12 hZ
  by_cases cz : Z ≤ 8160
  case neg =>
    have dz : decide (8160 < Z) = true := by simp; omega
    have dz2 : decide (Z ≤ 8160) = false := by simpa using cz
    have x13 := kd_no (dz2 ▸ B12.out)
    have x14 := (fx_not A14.out (by rw [x13]; decide)).2.trans x13
    have x15 := (kd_not B14.out (by rw [x14]; decide)).trans x14
    have x16 : e16 = 3 := by have := B15.out; rw [if_neg (by rw [x15]; decide)] at this; exact this.symm.trans x15
    have HXS := Lib.hid (show x = s00 ∧ er = 3 by obtain ⟨y1, y2⟩ := HX.out; rw [x16] at y1 y2; rw [if_neg (by decide)] at y2; exact ⟨y2, y1⟩)
    clear x13 x14 x15 x16 dz2
    go_wp2_with (fail)
    have GR := Lib.hid (G12.out.e_set 3)
    go_step3
    refine And.intro rfl ?_
    go_wp2_with (fail)
    try clear s0
    try clear s1
    try clear s2
    try clear s3
    try clear s4
    try clear s5
    try clear s6
    try clear s7
    try clear s8
    try clear f0
    try clear f1
    try clear f2
    try clear f3
    try clear f4
    try clear f5
    try clear f6
    try clear f7
    try clear f8
    try clear A1
    try clear A2
    try clear A3
    try clear A4
    try clear A5
    try clear A6
    try clear A7
    try clear A8
    try clear A9
    try clear A11
    try clear A12
    try clear A14
    try clear B9
    try clear B12
    try clear B14
    try clear B15
    try clear HX
    try clear HR
    try clear HE
    try clear u1
    try clear u2
    try clear u3
    try clear u5
    try clear u7
    try clear u11
    try clear u12
    try clear cr
    try clear fe
    try generalize (Value.func (Fn.func 33) _ _) = vf
    try generalize (Value.func (Fn.func 35) _ _) = vg
    go_region
    go_wp2_with (fail)
    rw [Exit.noGoto_ret]
    exact bodyPost_ret (results_ct rfl rfl (sTo_load_drew (GR.out.last5.blk (List.mem_cons_self ..)) s00)) rfl ⟨by rw [HXS.out.1, HXS.out.2]; rfl, (GR.out.last5.sTo s00).drop.drop.drop.drop.drop.tail.drew⟩
  have dz : decide (8160 < Z) = false := by simp; omega
  have dz2 : decide (Z ≤ 8160) = true := by simpa using cz
  have x13 := kd_so (dz2 ▸ B12.out)
  obtain ⟨rfl, rfl⟩ := x13
  clear dz2
  go_upto_region 23 with (first | (go_at_call 33; (refine (fixed_any G12.out at0 mem2 mem1 4 (by decide) A14.out).mono ?_); rintro e w14 ⟨rfl, h14⟩; simp only [set0] at h14; clear ce fe s0 s1 s2 s3 s4 s5 s6 s7 s8 f0 f1 f2 f3 f4 f5 f6 f7 f8 r0 r1 r2 r3 r4 r5 r6 r7 r8 t0 t1 t2 t3 t4 t5 t6 t7 t8; obtain ⟨ce, fe⟩ := cells_solo (h14.blk (List.mem_cons_self ..)); obtain ⟨s0, s1, s2, s3, s4, s5, s6, s7, s8⟩ := sOb_cells (h14.blk mem1); obtain ⟨f0, f1, f2, f3, f4, f5, f6, f7, f8⟩ := sOb_free (h14.blk mem1); obtain ⟨r0, r1, r2, r3, r4, r5, r6, r7, r8⟩ := sOb_free (h14.blk mem4); obtain ⟨t0, t1, t2, t3, t4, t5, t6, t7, t8⟩ := sOb_cells (h14.blk mem4)))
  have G14 := Lib.hid h14
  clear h14
  by_cases c14 : e14 = 0
  case neg =>
    have d14 : (e14 == 0) = false := by simp [c14]
    have x15 := kd_not B14.out c14
    have x16 : e16 = e14 := by have := B15.out; rw [if_neg (x15 ▸ c14)] at this; exact this.symm.trans x15
    have HXS := Lib.hid (show x = s00 ∧ er = e14 by obtain ⟨y1, y2⟩ := HX.out; rw [x16] at y1 y2; rw [if_neg c14] at y2; exact ⟨y2, y1⟩)
    clear x15 x16 c14
    go_wp2_with (fail)
    have GR := Lib.hid G14.out
    go_step3
    go_wp2_with (fail)
    try clear s0
    try clear s1
    try clear s2
    try clear s3
    try clear s4
    try clear s5
    try clear s6
    try clear s7
    try clear s8
    try clear f0
    try clear f1
    try clear f2
    try clear f3
    try clear f4
    try clear f5
    try clear f6
    try clear f7
    try clear f8
    try clear A1
    try clear A2
    try clear A3
    try clear A4
    try clear A5
    try clear A6
    try clear A7
    try clear A8
    try clear A9
    try clear A11
    try clear A12
    try clear A14
    try clear B9
    try clear B12
    try clear B14
    try clear B15
    try clear HX
    try clear HR
    try clear HE
    try clear u1
    try clear u2
    try clear u3
    try clear u5
    try clear u7
    try clear u11
    try clear u12
    try clear cr
    try clear fe
    try generalize (Value.func (Fn.func 33) _ _) = vf
    try generalize (Value.func (Fn.func 35) _ _) = vg
    go_region
    go_wp2_with (fail)
    rw [jump_ret]
    exact bodyPost_ret (results_ct rfl rfl (sTo_load_drew (GR.out.last5.blk (List.mem_cons_self ..)) s00)) rfl ⟨by rw [HXS.out.1, HXS.out.2]; rfl, (GR.out.last5.sTo s00).drop.drop.drop.drop.drop.tail.drew⟩
  subst c14
  by_cases c15 : v14 = 12
  case neg =>
    have d15 : (v14 == 12) = false := by simp [c15]
    have d16 : decide (v14 = 12) = false := by simp [c15]
    have x15 := kd_no (d16 ▸ B14.out)
    have x16 : e16 = 9 := by have := B15.out; rw [if_neg (by rw [x15]; decide)] at this; exact this.symm.trans x15
    have HXS := Lib.hid (show x = s00 ∧ er = 9 by obtain ⟨y1, y2⟩ := HX.out; rw [x16] at y1 y2; rw [if_neg (by decide)] at y2; exact ⟨y2, y1⟩)
    clear x15 x16 c15 d16
    go_wp2_with (fail)
    have GR := Lib.hid (G14.out.e_set 9)
    go_step3
    go_wp2_with (fail)
    try clear s0
    try clear s1
    try clear s2
    try clear s3
    try clear s4
    try clear s5
    try clear s6
    try clear s7
    try clear s8
    try clear f0
    try clear f1
    try clear f2
    try clear f3
    try clear f4
    try clear f5
    try clear f6
    try clear f7
    try clear f8
    try clear A1
    try clear A2
    try clear A3
    try clear A4
    try clear A5
    try clear A6
    try clear A7
    try clear A8
    try clear A9
    try clear A11
    try clear A12
    try clear A14
    try clear B9
    try clear B12
    try clear B14
    try clear B15
    try clear HX
    try clear HR
    try clear HE
    try clear u1
    try clear u2
    try clear u3
    try clear u5
    try clear u7
    try clear u11
    try clear u12
    try clear cr
    try clear fe
    try generalize (Value.func (Fn.func 33) _ _) = vf
    try generalize (Value.func (Fn.func 35) _ _) = vg
    go_region
    go_wp2_with (fail)
    rw [jump_ret]
    exact bodyPost_ret (results_ct rfl rfl (sTo_load_drew (GR.out.last5.blk (List.mem_cons_self ..)) s00)) rfl ⟨by rw [HXS.out.1, HXS.out.2]; rfl, (GR.out.last5.sTo s00).drop.drop.drop.drop.drop.tail.drew⟩
  subst c15
  have x15 := kd_so (show kdR true 9 (0, i14) = (e15, i15) from B14.out)
  obtain ⟨rfl, rfl⟩ := x15
  have x16 : enE s i15 false = e16 := by have := B15.out; rwa [if_pos rfl] at this
  have HE : Hid (∀ w L F, Hp W w L F → L[0]? = some (aRd r s i15) → Calls Try.prog 37 #[.pointer (some ⟨r, 0, none⟩), .bool false] w fun e w' => e = .returned (.int .i64 e16) ∧ Hp W w' (L.set 0 (aRd r s (enI s i15 false))) F) := Lib.hid (fun w L F h hk => by have := end_any h 0 hk false; rwa [x16] at this)
  obtain ⟨cr, -⟩ := cells_solo (G14.out.blk mem3)
  clear x16
  by_cases c16 : e16 = 0
  case neg =>
    have d16 : (e16 == 0) = false := by simp [c16]
    have x16 : e16 = e16 := rfl
    have HXS := Lib.hid (show x = s00 ∧ er = e16 by obtain ⟨y1, y2⟩ := HX.out; rw [x16] at y1 y2; rw [if_neg c16] at y2; exact ⟨y2, y1⟩)
    clear x16 c16
    go_wp2_with (first | (go_at_call 37; (with_reducible refine (HE.out _ _ _ G14.out at0).mono ?_); rintro e w15 ⟨rfl, h15⟩; simp only [set0] at h15; clear ce fe s0 s1 s2 s3 s4 s5 s6 s7 s8 f0 f1 f2 f3 f4 f5 f6 f7 f8 r0 r1 r2 r3 r4 r5 r6 r7 r8 t0 t1 t2 t3 t4 t5 t6 t7 t8; obtain ⟨ce, fe⟩ := cells_solo (h15.blk (List.mem_cons_self ..)); obtain ⟨s0, s1, s2, s3, s4, s5, s6, s7, s8⟩ := sOb_cells (h15.blk mem1); obtain ⟨f0, f1, f2, f3, f4, f5, f6, f7, f8⟩ := sOb_free (h15.blk mem1); obtain ⟨r0, r1, r2, r3, r4, r5, r6, r7, r8⟩ := sOb_free (h15.blk mem4); obtain ⟨t0, t1, t2, t3, t4, t5, t6, t7, t8⟩ := sOb_cells (h15.blk mem4)))
    have GR := Lib.hid (h15.e_set e16)
    go_step3
    go_wp2_with (fail)
    try clear s0
    try clear s1
    try clear s2
    try clear s3
    try clear s4
    try clear s5
    try clear s6
    try clear s7
    try clear s8
    try clear f0
    try clear f1
    try clear f2
    try clear f3
    try clear f4
    try clear f5
    try clear f6
    try clear f7
    try clear f8
    try clear A1
    try clear A2
    try clear A3
    try clear A4
    try clear A5
    try clear A6
    try clear A7
    try clear A8
    try clear A9
    try clear A11
    try clear A12
    try clear A14
    try clear B9
    try clear B12
    try clear B14
    try clear B15
    try clear HX
    try clear HR
    try clear HE
    try clear u1
    try clear u2
    try clear u3
    try clear u5
    try clear u7
    try clear u11
    try clear u12
    try clear cr
    try clear fe
    try generalize (Value.func (Fn.func 33) _ _) = vf
    try generalize (Value.func (Fn.func 35) _ _) = vg
    go_region
    go_wp2_with (fail)
    rw [jump_ret]
    exact bodyPost_ret (results_ct rfl rfl (sTo_load_drew (GR.out.last5.blk (List.mem_cons_self ..)) s00)) rfl ⟨by rw [HXS.out.1, HXS.out.2]; rfl, (GR.out.last5.sTo s00).drop.drop.drop.drop.drop.tail.drew⟩
  subst c16
  have HXS := Lib.hid (show x = _ ∧ er = 0 by obtain ⟨y1, y2⟩ := HX.out; rw [if_pos rfl] at y2; exact ⟨y2, y1⟩)
  clear cr
  obtain ⟨cr, -⟩ := cells_solo (G14.out.blk mem3)
  go_upto_region 27 with (first | (go_at_call 37; (with_reducible refine (HE.out _ _ _ G14.out at0).mono ?_); rintro e w15 ⟨rfl, h15⟩; simp only [set0] at h15; clear ce fe s0 s1 s2 s3 s4 s5 s6 s7 s8 f0 f1 f2 f3 f4 f5 f6 f7 f8 r0 r1 r2 r3 r4 r5 r6 r7 r8 t0 t1 t2 t3 t4 t5 t6 t7 t8; obtain ⟨ce, fe⟩ := cells_solo (h15.blk (List.mem_cons_self ..))))
  have h16 := h15.e_set 0
  clear ce fe h15
  generalize (w15.setCell ⟨n + 1, 0, none⟩ (.int .i64 0)) = w16 at h16 ⊢
  obtain ⟨ce, fe⟩ := cells_solo (h16.blk (List.mem_cons_self ..)); obtain ⟨s0, s1, s2, s3, s4, s5, s6, s7, s8⟩ := sOb_cells (h16.blk mem1); obtain ⟨f0, f1, f2, f3, f4, f5, f6, f7, f8⟩ := sOb_free (h16.blk mem1); obtain ⟨r0, r1, r2, r3, r4, r5, r6, r7, r8⟩ := sOb_free (h16.blk mem4); obtain ⟨t0, t1, t2, t3, t4, t5, t6, t7, t8⟩ := sOb_cells (h16.blk mem4)
  have GR := Lib.hid h16
  clear h16
  try clear A1
  try clear A2
  try clear A3
  try clear A4
  try clear A5
  try clear A6
  try clear A7
  try clear A8
  try clear A9
  try clear A11
  try clear A12
  try clear A14
  try clear B9
  try clear B12
  try clear B14
  try clear B15
  try clear HX
  try clear HR
  try clear HE
  try clear cr
  generalize (Value.func (Fn.func 33) _ _) = vf
  try generalize (Value.func (Fn.func 35) _ _) = vg
  go_upto_region 28 with (fail)
  go_wp2_with (fail)
  rw [jump_ret]
  refine bodyPost_ret (results_ct rfl rfl (sTo_load (GR.out.last5.blk (List.mem_cons_self ..)) ⟨v1, v2, v3, v4, 4 + (v5 : Int), 4 + (v7 : Int), v8, 1 + (v11 : Int), 1 + (v12 : Int)⟩)) rfl ?_
  exact ⟨by rw [HXS.out.1, HXS.out.2]; rfl, (GR.out.last5.sTo ⟨v1, v2, v3, v4, 4 + (v5 : Int), 4 + (v7 : Int), v8, 1 + (v11 : Int), 1 + (v12 : Int)⟩).drop.drop.drop.drop.drop.tail⟩
end Go.Proofs.Ytnigpledibhiaaa
