/- PpsApart. -/
import Derived.Test.YtkaoeilijdeioaaZf
import Derived.Test.YtkaoeilijdeioaaYu
import Derived.Test.YtkaoeilijdeioaaReg
import Derived.Deep.CutBlock
namespace Go.Proofs.Ytkaoeilijdeioaa
open Go.RowKit
set_option linter.unusedVariables false
set_option maxRecDepth 100000
set_option linter.unusedSimpArgs false

set_option maxHeartbeats 4000000 in
theorem papart_walk (m0 m1 m2 m3 m4 m5 m6 m7 n0 n1 n2 n3 n4 n5 n6 n7 : Int) (a0 : In64 m0) (a1 : In64 m1) (a2 : In64 m2) (a3 : In64 m3) (a4 : In64 m4) (a5 : In64 m5) (a6 : In64 m6) (b0 : In64 n0) (b1 : In64 n1) (b2 : In64 n2) (b3 : In64 n3) (b4 : In64 n4) (b5 : In64 n5) (b6 : In64 n6) (W : World) :
    Calls Try.prog 7 #[.agg #[.int .i64 m0, .int .i64 m1, .int .i64 m2, .int .i64 m3, .int .i64 m4, .int .i64 m5, .int .i64 m6, .int .i64 m7], .agg #[.int .i64 n0, .int .i64 n1, .int .i64 n2, .int .i64 n3, .int .i64 n4, .int .i64 n5, .int .i64 n6, .int .i64 n7]] W fun e w' => e = .returned (.bool true) ∧ Below W.heap.size W w' := by
  obtain ⟨x, okx, VX⟩ := valid_any m0 m1 m2 m3 m4 m5 m6 m7 a0 a1 a2 a3 a4 a5 a6
  obtain ⟨y, oky, VY⟩ := valid_any n0 n1 n2 n3 n4 n5 n6 n7 b0 b1 b2 b3 b4 b5 b6
  obtain ⟨S, hS⟩ : ∃ T, pPay x = T := ⟨_, rfl⟩
  obtain ⟨T, hT⟩ : ∃ T, pPay y = T := ⟨_, rfl⟩
  have KX := Lib.hid (And.intro hS (show pErr x = 0 by unfold pErr; rw [if_pos okx]))
  have KY := Lib.hid (And.intro hT (show pErr y = 0 by unfold pErr; rw [if_pos oky]))
  have OX := Lib.hid okx
  have SZ := Lib.hid (show (3 ≤ S.size ∧ S.size ≤ 11) ∧ (3 ≤ T.size ∧ T.size ≤ 11) by rw [← hS, ← hT]; exact ⟨pPay_size okx, pPay_size oky⟩)
  have EX := Lib.hid (show ∀ k, k = min S.size T.size → (S.extract 0 k = T.extract 0 k) → x = y by subst hS hT; exact fun k hk h => pPay_ext okx oky hk h)
  have ST := Lib.hid (show x = y → S = T by rw [← hS, ← hT]; intro h; rw [h])
  have OY := Lib.hid oky
  have VXh := Lib.hid VX
  have VYh := Lib.hid VY
  clear hS hT okx oky VX VY a0 a1 a2 a3 a4 a5 a6 b0 b1 b2 b3 b4 b5 b6
  obtain ⟨id, sp, cab, rf, rf1, qp, qs, ch, deb, intr⟩ := x
  obtain ⟨id2, sp2, cab2, rf2, rf12, qp2, qs2, ch2, deb2, intr2⟩ := y
  have H0 : Hp W ((W.alloc (n8Ob m0 m1 m2 m3 m4 m5 m6 m7)).alloc (n8Ob n0 n1 n2 n3 n4 n5 n6 n7)) [] [(W.heap.size + 1, n8Ob n0 n1 n2 n3 n4 n5 n6 n7), (W.heap.size, n8Ob m0 m1 m2 m3 m4 m5 m6 m7)] := by
    have := ((Hp.start W).alloc (n8Ob m0 m1 m2 m3 m4 m5 m6 m7)).alloc (n8Ob n0 n1 n2 n3 n4 n5 n6 n7)
    simpa using this
  go_enter Try.func7, Try.ntmps7
  go_upto_region 1 with (fail)
  generalize hF : ([(W.heap.size + 1, n8Ob n0 n1 n2 n3 n4 n5 n6 n7), (W.heap.size, n8Ob m0 m1 m2 m3 m4 m5 m6 m7)] : List (Nat × Obj)) = F at H0
  generalize ((W.alloc (.cells #[.int .i64 m0, .int .i64 m1, .int .i64 m2, .int .i64 m3, .int .i64 m4, .int .i64 m5, .int .i64 m6, .int .i64 m7] 38 (0, 0))).alloc (.cells #[.int .i64 n0, .int .i64 n1, .int .i64 n2, .int .i64 n3, .int .i64 n4, .int .i64 n5, .int .i64 n6, .int .i64 n7] 38 (0, 0))) = w2 at *
  obtain ⟨oA, hoA⟩ : ∃ o : Obj, o = pOb ⟨id, sp, cab, rf, rf1, qp, qs, ch, deb, intr⟩ := ⟨_, rfl⟩
  obtain ⟨oB, hoB⟩ : ∃ o : Obj, o = pOb ⟨id2, sp2, cab2, rf2, rf12, qp2, qs2, ch2, deb2, intr2⟩ := ⟨_, rfl⟩
  obtain ⟨oZ, hoZ⟩ : ∃ o : Obj, o = .cells #[.int .i64 0, .int .i64 0, .bool false, .int .i64 0, .int .i64 0, .int .i64 0, .int .i64 0, .int .i64 0, .bool false, .bool false] 23 (0, 0) := ⟨_, rfl⟩
  generalize ha0 : Act.mk _ _ = a0
  haveI : Nonempty (HpW W [] F) := ⟨⟨_, H0⟩⟩
  have x0 : ∀ x : HpW W [] F, x.w.cell? ⟨W.heap.size, 0, none⟩ = some (.int .i64 m0) := fun x => (n8_cells (x.h.blk (p := (W.heap.size, n8Ob m0 m1 m2 m3 m4 m5 m6 m7)) (by rw [← hF]; simp))).1
  have x1 : ∀ x : HpW W [] F, x.w.cell? ⟨W.heap.size, 1, none⟩ = some (.int .i64 m1) := fun x => (n8_cells (x.h.blk (p := (W.heap.size, n8Ob m0 m1 m2 m3 m4 m5 m6 m7)) (by rw [← hF]; simp))).2.1
  have x2 : ∀ x : HpW W [] F, x.w.cell? ⟨W.heap.size, 2, none⟩ = some (.int .i64 m2) := fun x => (n8_cells (x.h.blk (p := (W.heap.size, n8Ob m0 m1 m2 m3 m4 m5 m6 m7)) (by rw [← hF]; simp))).2.2.1
  have x3 : ∀ x : HpW W [] F, x.w.cell? ⟨W.heap.size, 3, none⟩ = some (.int .i64 m3) := fun x => (n8_cells (x.h.blk (p := (W.heap.size, n8Ob m0 m1 m2 m3 m4 m5 m6 m7)) (by rw [← hF]; simp))).2.2.2.1
  have x4 : ∀ x : HpW W [] F, x.w.cell? ⟨W.heap.size, 4, none⟩ = some (.int .i64 m4) := fun x => (n8_cells (x.h.blk (p := (W.heap.size, n8Ob m0 m1 m2 m3 m4 m5 m6 m7)) (by rw [← hF]; simp))).2.2.2.2.1
  have x5 : ∀ x : HpW W [] F, x.w.cell? ⟨W.heap.size, 5, none⟩ = some (.int .i64 m5) := fun x => (n8_cells (x.h.blk (p := (W.heap.size, n8Ob m0 m1 m2 m3 m4 m5 m6 m7)) (by rw [← hF]; simp))).2.2.2.2.2.1
  have x6 : ∀ x : HpW W [] F, x.w.cell? ⟨W.heap.size, 6, none⟩ = some (.int .i64 m6) := fun x => (n8_cells (x.h.blk (p := (W.heap.size, n8Ob m0 m1 m2 m3 m4 m5 m6 m7)) (by rw [← hF]; simp))).2.2.2.2.2.2.1
  have x7 : ∀ x : HpW W [] F, x.w.cell? ⟨W.heap.size, 7, none⟩ = some (.int .i64 m7) := fun x => (n8_cells (x.h.blk (p := (W.heap.size, n8Ob m0 m1 m2 m3 m4 m5 m6 m7)) (by rw [← hF]; simp))).2.2.2.2.2.2.2
  have y0 : ∀ x : HpW W [] F, x.w.cell? ⟨W.heap.size + 1, 0, none⟩ = some (.int .i64 n0) := fun x => (n8_cells (x.h.blk (p := (W.heap.size + 1, n8Ob n0 n1 n2 n3 n4 n5 n6 n7)) (by rw [← hF]; simp))).1
  have y1 : ∀ x : HpW W [] F, x.w.cell? ⟨W.heap.size + 1, 1, none⟩ = some (.int .i64 n1) := fun x => (n8_cells (x.h.blk (p := (W.heap.size + 1, n8Ob n0 n1 n2 n3 n4 n5 n6 n7)) (by rw [← hF]; simp))).2.1
  have y2 : ∀ x : HpW W [] F, x.w.cell? ⟨W.heap.size + 1, 2, none⟩ = some (.int .i64 n2) := fun x => (n8_cells (x.h.blk (p := (W.heap.size + 1, n8Ob n0 n1 n2 n3 n4 n5 n6 n7)) (by rw [← hF]; simp))).2.2.1
  have y3 : ∀ x : HpW W [] F, x.w.cell? ⟨W.heap.size + 1, 3, none⟩ = some (.int .i64 n3) := fun x => (n8_cells (x.h.blk (p := (W.heap.size + 1, n8Ob n0 n1 n2 n3 n4 n5 n6 n7)) (by rw [← hF]; simp))).2.2.2.1
  have y4 : ∀ x : HpW W [] F, x.w.cell? ⟨W.heap.size + 1, 4, none⟩ = some (.int .i64 n4) := fun x => (n8_cells (x.h.blk (p := (W.heap.size + 1, n8Ob n0 n1 n2 n3 n4 n5 n6 n7)) (by rw [← hF]; simp))).2.2.2.2.1
  have y5 : ∀ x : HpW W [] F, x.w.cell? ⟨W.heap.size + 1, 5, none⟩ = some (.int .i64 n5) := fun x => (n8_cells (x.h.blk (p := (W.heap.size + 1, n8Ob n0 n1 n2 n3 n4 n5 n6 n7)) (by rw [← hF]; simp))).2.2.2.2.2.1
  have y6 : ∀ x : HpW W [] F, x.w.cell? ⟨W.heap.size + 1, 6, none⟩ = some (.int .i64 n6) := fun x => (n8_cells (x.h.blk (p := (W.heap.size + 1, n8Ob n0 n1 n2 n3 n4 n5 n6 n7)) (by rw [← hF]; simp))).2.2.2.2.2.2.1
  have y7 : ∀ x : HpW W [] F, x.w.cell? ⟨W.heap.size + 1, 7, none⟩ = some (.int .i64 n7) := fun x => (n8_cells (x.h.blk (p := (W.heap.size + 1, n8Ob n0 n1 n2 n3 n4 n5 n6 n7)) (by rw [← hF]; simp))).2.2.2.2.2.2.2
  have HF := Lib.hid hF; clear hF
  have hsz : a0.tmps.size = 57 := by rw [← ha0]; rfl
  let I : Array Bool → Act → World → Prop := fun l a w => ∃ (vals : Nat → Value) (b4 : Nat) (b5 : Nat), a = fillA [(0, 12), (1, 13), (2, 14), (3, 15), (4, 5), (5, 6)] vals l a0 ∧ (l.getD 0 false = true → vals 0 = .agg #[.int .i64 m0, .int .i64 m1, .int .i64 m2, .int .i64 m3, .int .i64 m4, .int .i64 m5, .int .i64 m6, .int .i64 m7]) ∧ (l.getD 1 false = true → vals 1 = .agg #[.int .i64 id, .int .i64 sp, .bool cab, .int .i64 rf, .int .i64 rf1, .int .i64 qp, .int .i64 qs, .int .i64 ch, .bool deb, .bool intr]) ∧ (l.getD 2 false = true → vals 2 = .agg #[.int .i64 n0, .int .i64 n1, .int .i64 n2, .int .i64 n3, .int .i64 n4, .int .i64 n5, .int .i64 n6, .int .i64 n7]) ∧ (l.getD 3 false = true → vals 3 = .agg #[.int .i64 id2, .int .i64 sp2, .bool cab2, .int .i64 rf2, .int .i64 rf12, .int .i64 qp2, .int .i64 qs2, .int .i64 ch2, .bool deb2, .bool intr2]) ∧ (l.getD 4 false = true → vals 4 = .pointer (some ⟨b4, 0, none⟩)) ∧ (l.getD 5 false = true → vals 5 = .pointer (some ⟨b5, 0, none⟩)) ∧ (l.getD 6 false = true → l.getD 4 false = true) ∧ (l.getD 7 false = true → l.getD 5 false = true) ∧ Hp W w [] ((if l.getD 4 false = true then [(b4, if l.getD 6 false = true then oA else oZ)] else []) ++ (if l.getD 5 false = true then [(b5, if l.getD 7 false = true then oB else oZ)] else []) ++ F)
  refine wp_region_inv I (by kernel_rfl) ?_ ?_ ?_
  · exact ⟨fun _ => undef, 0, 0, by simp [fillA], by simp, by simp, by simp, by simp, by simp, by simp, by simp, by simp, by simpa using H0.drew⟩
  · intro l a w i hI hs hi
    obtain ⟨vals, b4, b5, rfl, v0, v1, v2, v3, v4, v5, v6, v7, hH⟩ := hI
    obtain ⟨hu1, hu2⟩ := ready_unlisted hs hi
    have hZ : Hp W w [] F := by
      by_cases c4 : l.getD 4 false = true <;> by_cases c5 : l.getD 5 false = true <;> simp only [c4, c5, if_true, if_false, List.nil_append, List.cons_append, List.append_assoc, Bool.false_eq_true, ↓reduceIte] at hH <;> first | exact hH | exact hH.drop | exact hH.drop.drop | exact hH.drop.drop.drop
    have hi8 := (ready_false hs hi).1
    have hi8' : i = 0 ∨ i = 1 ∨ i = 2 ∨ i = 3 ∨ i = 4 ∨ i = 5 ∨ i = 6 ∨ i = 7 := by simp at hi8; omega
    rcases hi8' with rfl | rfl | rfl | rfl | rfl | rfl | rfl | rfl
    · refine wpOp_of rfl rfl ?_
      have hput := fun v => fillA_put (vals := vals) (a := a0) v (show (0, 12) ∈ [(0, 12), (1, 13), (2, 14), (3, 15), (4, 5), (5, 6)] by simp) (by decide) (by decide) hu1 hu2
      have eb : (fillA [(0, 12), (1, 13), (2, 14), (3, 15), (4, 5), (5, 6)] vals l a0).tmps[2]?.getD undef = .pointer (some ⟨W.heap.size, 0, none⟩) := by rw [fillA_get_out (by simp), ← ha0]; rfl
      have k0 := x0 ⟨w, hZ⟩
      have k1 := x1 ⟨w, hZ⟩
      have k2 := x2 ⟨w, hZ⟩
      have k3 := x3 ⟨w, hZ⟩
      have k4 := x4 ⟨w, hZ⟩
      have k5 := x5 ⟨w, hZ⟩
      have k6 := x6 ⟨w, hZ⟩
      have k7 := x7 ⟨w, hZ⟩
      simp only at k0 k1 k2 k3 k4 k5 k6 k7
      generalize hA : fillA [(0, 12), (1, 13), (2, 14), (3, 15), (4, 5), (5, 6)] vals l a0 = A at *
      go_simp
      refine ⟨updV vals 0 _, b4, b5, hput _, ?_, ?_, ?_, ?_, ?_, ?_, ?_, ?_, ?_⟩
      all_goals first | (intro _; rfl) | (simp (discharger := decide) only [getD_set_ne, updV_ne]; assumption) | (simp (discharger := decide) only [getD_set_ne]; assumption)
    · refine wpOp_of rfl rfl ?_
      have d0 := ready_deps hi (o := _) rfl ⟨0, .data⟩ (by simp) rfl
      have hput := fun v => fillA_put (vals := vals) (a := a0) v (show (1, 13) ∈ [(0, 12), (1, 13), (2, 14), (3, 15), (4, 5), (5, 6)] by simp) (by decide) (by decide) hu1 hu2
      have e12 := (fillA_get_in (vals := vals) (a := a0) (show (0, 12) ∈ [(0, 12), (1, 13), (2, 14), (3, 15), (4, 5), (5, 6)] by simp) (by decide) (by rw [hsz]; decide) d0).trans (v0 d0)
      generalize hA : fillA [(0, 12), (1, 13), (2, 14), (3, 15), (4, 5), (5, 6)] vals l a0 = A at *
      go_simp
      refine (VXh.out _ _ _ _ hH).mono ?_
      rintro e w1 ⟨rfl, hH1⟩
      refine ⟨updV vals 1 _, b4, b5, hput _, ?_, ?_, ?_, ?_, ?_, ?_, ?_, ?_, ?_⟩
      all_goals first | (intro _; rfl) | (simp (discharger := decide) only [getD_set_ne, updV_ne]; assumption) | (simp (discharger := decide) only [getD_set_ne]; assumption)
    · refine wpOp_of rfl rfl ?_
      have hput := fun v => fillA_put (vals := vals) (a := a0) v (show (2, 14) ∈ [(0, 12), (1, 13), (2, 14), (3, 15), (4, 5), (5, 6)] by simp) (by decide) (by decide) hu1 hu2
      have eb : (fillA [(0, 12), (1, 13), (2, 14), (3, 15), (4, 5), (5, 6)] vals l a0).tmps[3]?.getD undef = .pointer (some ⟨W.heap.size + 1, 0, none⟩) := by rw [fillA_get_out (by simp), ← ha0]; rfl
      have k0 := y0 ⟨w, hZ⟩
      have k1 := y1 ⟨w, hZ⟩
      have k2 := y2 ⟨w, hZ⟩
      have k3 := y3 ⟨w, hZ⟩
      have k4 := y4 ⟨w, hZ⟩
      have k5 := y5 ⟨w, hZ⟩
      have k6 := y6 ⟨w, hZ⟩
      have k7 := y7 ⟨w, hZ⟩
      simp only at k0 k1 k2 k3 k4 k5 k6 k7
      generalize hA : fillA [(0, 12), (1, 13), (2, 14), (3, 15), (4, 5), (5, 6)] vals l a0 = A at *
      go_simp
      refine ⟨updV vals 2 _, b4, b5, hput _, ?_, ?_, ?_, ?_, ?_, ?_, ?_, ?_, ?_⟩
      all_goals first | (intro _; rfl) | (simp (discharger := decide) only [getD_set_ne, updV_ne]; assumption) | (simp (discharger := decide) only [getD_set_ne]; assumption)
    · refine wpOp_of rfl rfl ?_
      have d2 := ready_deps hi (o := _) rfl ⟨2, .data⟩ (by simp) rfl
      have hput := fun v => fillA_put (vals := vals) (a := a0) v (show (3, 15) ∈ [(0, 12), (1, 13), (2, 14), (3, 15), (4, 5), (5, 6)] by simp) (by decide) (by decide) hu1 hu2
      have e14 := (fillA_get_in (vals := vals) (a := a0) (show (2, 14) ∈ [(0, 12), (1, 13), (2, 14), (3, 15), (4, 5), (5, 6)] by simp) (by decide) (by rw [hsz]; decide) d2).trans (v2 d2)
      generalize hA : fillA [(0, 12), (1, 13), (2, 14), (3, 15), (4, 5), (5, 6)] vals l a0 = A at *
      go_simp
      refine (VYh.out _ _ _ _ hH).mono ?_
      rintro e w1 ⟨rfl, hH1⟩
      refine ⟨updV vals 3 _, b4, b5, hput _, ?_, ?_, ?_, ?_, ?_, ?_, ?_, ?_, ?_⟩
      all_goals first | (intro _; rfl) | (simp (discharger := decide) only [getD_set_ne, updV_ne]; assumption) | (simp (discharger := decide) only [getD_set_ne]; assumption)
    · refine wpOp_of rfl rfl ?_
      have hput := fun v => fillA_put (vals := vals) (a := a0) v (show (4, 5) ∈ [(0, 12), (1, 13), (2, 14), (3, 15), (4, 5), (5, 6)] by simp) (by decide) (by decide) hu1 hu2
      generalize hA : fillA [(0, 12), (1, 13), (2, 14), (3, 15), (4, 5), (5, 6)] vals l a0 = A at *
      go_simp
      have hst : l.getD 6 false = false := by cases hc : l.getD 6 false with | false => rfl | true => (have := v6 hc; rw [hu2] at this; cases this)
      refine ⟨updV vals 4 _, w.heap.size, b5, hput _, ?_, ?_, ?_, ?_, ?_, ?_, ?_, ?_, ?_⟩
      all_goals first | (intro _; rfl) | (intro _; exact getD_set_self hu1) | (simp (discharger := decide) only [getD_set_ne, updV_ne]; assumption) | (simp (discharger := decide) only [getD_set_ne]; assumption) | skip
      rw [hu2] at hH
      simp (discharger := decide) only [getD_set_self hu1, getD_set_ne, hst, if_true, if_false, List.nil_append, List.cons_append, List.append_assoc, Bool.false_eq_true, ↓reduceIte] at hH ⊢
      refine Hp.perm (hH.alloc _) ?_
      rw [← hoZ]
      all_goals (exact List.Perm.refl _)
    · refine wpOp_of rfl rfl ?_
      have hput := fun v => fillA_put (vals := vals) (a := a0) v (show (5, 6) ∈ [(0, 12), (1, 13), (2, 14), (3, 15), (4, 5), (5, 6)] by simp) (by decide) (by decide) hu1 hu2
      generalize hA : fillA [(0, 12), (1, 13), (2, 14), (3, 15), (4, 5), (5, 6)] vals l a0 = A at *
      go_simp
      have hst : l.getD 7 false = false := by cases hc : l.getD 7 false with | false => rfl | true => (have := v7 hc; rw [hu2] at this; cases this)
      refine ⟨updV vals 5 _, b4, w.heap.size, hput _, ?_, ?_, ?_, ?_, ?_, ?_, ?_, ?_, ?_⟩
      all_goals first | (intro _; rfl) | (intro _; exact getD_set_self hu1) | (simp (discharger := decide) only [getD_set_ne, updV_ne]; assumption) | (simp (discharger := decide) only [getD_set_ne]; assumption) | skip
      rw [hu2] at hH
      simp (discharger := decide) only [getD_set_self hu1, getD_set_ne, hst, if_true, if_false, List.nil_append, List.cons_append, List.append_assoc, Bool.false_eq_true, ↓reduceIte] at hH ⊢
      refine Hp.perm (hH.alloc _) ?_
      rw [← hoZ]
      all_goals (cases l.getD 4 false <;> simp only [Bool.false_eq_true, ↓reduceIte, List.nil_append, List.cons_append] <;> first | exact List.Perm.refl _ | exact List.Perm.swap _ _ _)
    · refine wpOp_of rfl rfl ?_
      have d4 := ready_deps hi (o := _) rfl ⟨4, .data⟩ (by simp) rfl
      have d1 := ready_deps hi (o := _) rfl ⟨1, .data⟩ (by simp) rfl
      have hput : RowKit.Hid (fillA [(0, 12), (1, 13), (2, 14), (3, 15), (4, 5), (5, 6)] vals l a0 = fillA [(0, 12), (1, 13), (2, 14), (3, 15), (4, 5), (5, 6)] vals (l.setIfInBounds 6 true) a0) := Lib.hid <| fillA_congr a0 (fun x hx => ⟨(getD_set_ne (by simp only [List.mem_cons, List.not_mem_nil, or_false] at hx; rcases hx with rfl | rfl | rfl | rfl | rfl | rfl <;> decide)).symm, fun _ => rfl⟩)
      have e5 := (fillA_get_in (vals := vals) (a := a0) (show (4, 5) ∈ [(0, 12), (1, 13), (2, 14), (3, 15), (4, 5), (5, 6)] by simp) (by decide) (by rw [hsz]; decide) d4).trans (v4 d4)
      have e13 := (fillA_get_in (vals := vals) (a := a0) (show (1, 13) ∈ [(0, 12), (1, 13), (2, 14), (3, 15), (4, 5), (5, 6)] by simp) (by decide) (by rw [hsz]; decide) d1).trans (v1 d1)
      have d5 := ready_deps hi (o := _) rfl ⟨5, .phase⟩ (by simp) rfl
      rw [d4, d5, hu2] at hH
      simp only [if_true, if_false, List.nil_append, List.cons_append, List.append_assoc, Bool.false_eq_true, ↓reduceIte] at hH
      have hb := hH.blk (p := (b4, oZ)) (by simp)
      rw [hoZ] at hb
      obtain ⟨c0, c1, c2, c3, c4, c5, c6, c7, c8, c9⟩ := pOb_cells (x := p00) hb
      have fr : ∀ q, w.frozen? ⟨b4, q, none⟩ = false := fun q => free_of hb
      have f0 := fr 0; have f1 := fr 1; have f2 := fr 2; have f3 := fr 3; have f4 := fr 4; have f5 := fr 5; have f6 := fr 6; have f7 := fr 7; have f8 := fr 8; have f9 := fr 9
      generalize hA : fillA [(0, 12), (1, 13), (2, 14), (3, 15), (4, 5), (5, 6)] vals l a0 = A at *
      go_simp
      refine ⟨vals, b4, b5, hput.out, ?_, ?_, ?_, ?_, ?_, ?_, ?_, ?_, ?_⟩
      rotate_right 1
      · simp (discharger := decide) only [getD_set_self hu1, getD_set_ne, d4, d5, if_true, if_false, List.nil_append, List.cons_append, List.append_assoc, Bool.false_eq_true, ↓reduceIte]
        generalize (b5, if l.getD 7 false = true then oB else oZ) = P5 at hH ⊢
        rw [hoZ] at hH
        rw [hoA]
        exact Hp.pTo (y := p00) hH ⟨id, sp, cab, rf, rf1, qp, qs, ch, deb, intr⟩
      all_goals first | (simp (discharger := decide) only [getD_set_ne]; assumption) | (intro _; simp (discharger := decide) only [getD_set_ne]; assumption) | skip
    · refine wpOp_of rfl rfl ?_
      have d5 := ready_deps hi (o := _) rfl ⟨5, .data⟩ (by simp) rfl
      have d3 := ready_deps hi (o := _) rfl ⟨3, .data⟩ (by simp) rfl
      have hput : RowKit.Hid (fillA [(0, 12), (1, 13), (2, 14), (3, 15), (4, 5), (5, 6)] vals l a0 = fillA [(0, 12), (1, 13), (2, 14), (3, 15), (4, 5), (5, 6)] vals (l.setIfInBounds 7 true) a0) := Lib.hid <| fillA_congr a0 (fun x hx => ⟨(getD_set_ne (by simp only [List.mem_cons, List.not_mem_nil, or_false] at hx; rcases hx with rfl | rfl | rfl | rfl | rfl | rfl <;> decide)).symm, fun _ => rfl⟩)
      have e6 := (fillA_get_in (vals := vals) (a := a0) (show (5, 6) ∈ [(0, 12), (1, 13), (2, 14), (3, 15), (4, 5), (5, 6)] by simp) (by decide) (by rw [hsz]; decide) d5).trans (v5 d5)
      have e15 := (fillA_get_in (vals := vals) (a := a0) (show (3, 15) ∈ [(0, 12), (1, 13), (2, 14), (3, 15), (4, 5), (5, 6)] by simp) (by decide) (by rw [hsz]; decide) d3).trans (v3 d3)
      have d4 := ready_deps hi (o := _) rfl ⟨4, .phase⟩ (by simp) rfl
      rw [d4, d5, hu2] at hH
      simp only [if_true, if_false, List.nil_append, List.cons_append, List.append_assoc, Bool.false_eq_true, ↓reduceIte] at hH
      have hb := hH.blk (p := (b5, oZ)) (by simp)
      rw [hoZ] at hb
      obtain ⟨c0, c1, c2, c3, c4, c5, c6, c7, c8, c9⟩ := pOb_cells (x := p00) hb
      have fr : ∀ q, w.frozen? ⟨b5, q, none⟩ = false := fun q => free_of hb
      have f0 := fr 0; have f1 := fr 1; have f2 := fr 2; have f3 := fr 3; have f4 := fr 4; have f5 := fr 5; have f6 := fr 6; have f7 := fr 7; have f8 := fr 8; have f9 := fr 9
      generalize hA : fillA [(0, 12), (1, 13), (2, 14), (3, 15), (4, 5), (5, 6)] vals l a0 = A at *
      go_simp
      refine ⟨vals, b4, b5, hput.out, ?_, ?_, ?_, ?_, ?_, ?_, ?_, ?_, ?_⟩
      rotate_right 1
      · simp (discharger := decide) only [getD_set_self hu1, getD_set_ne, d4, d5, if_true, if_false, List.nil_append, List.cons_append, List.append_assoc, Bool.false_eq_true, ↓reduceIte]
        generalize (b4, if l.getD 6 false = true then oA else oZ) = P4 at hH ⊢
        rw [hoZ] at hH
        rw [hoB]
        exact (Hp.pTo (y := p00) hH.swap2 ⟨id2, sp2, cab2, rf2, rf12, qp2, qs2, ch2, deb2, intr2⟩).swap2
      all_goals first | (simp (discharger := decide) only [getD_set_ne]; assumption) | (intro _; simp (discharger := decide) only [getD_set_ne]; assumption) | skip
  · intro l a w hI hs hr
    have hall := all_listed hr hs (by kernel_rfl)
    have q0 := hall 0 (by simp)
    have q1 := hall 1 (by simp)
    have q2 := hall 2 (by simp)
    have q3 := hall 3 (by simp)
    have q4 := hall 4 (by simp)
    have q5 := hall 5 (by simp)
    have q6 := hall 6 (by simp)
    have q7 := hall 7 (by simp)
    obtain ⟨vals, b4, b5, rfl, v0, v1, v2, v3, v4, v5, v6, v7, hH⟩ := hI
    simp only [q0, q1, q2, q3, q4, q5, q6, q7, if_true, if_false, List.nil_append, List.cons_append, List.append_assoc, Bool.false_eq_true, ↓reduceIte] at hH
    have v0 := v0 q0
    have v1 := v1 q1
    have v2 := v2 q2
    have v3 := v3 q3
    have v4 := v4 q4
    have v5 := v5 q5
    simp only [fillA, List.foldl_cons, List.foldl_nil, q0, q1, q2, q3, q4, q5, v0, v1, v2, v3, v4, v5, if_true]
    rw [← ha0]
    simp only [Act.put, List.setIfInBounds_toArray, List.set_cons_zero, List.set_cons_succ]
    clear q0 q1 q2 q3 q4 q5 q6 q7 v0 v1 v2 v3 v4 v5 v6 v7 x0 x1 x2 x3 x4 x5 x6 x7 y0 y1 y2 y3 y4 y5 y6 y7 I
    rw [hoA, hoB] at hH
    clear hoA hoB hoZ VXh VYh
    obtain ⟨s0, s1, s2, s3, s4, s5, s6, s7, s8, s9⟩ := pOb_cells (x := ⟨id, sp, cab, rf, rf1, qp, qs, ch, deb, intr⟩) (hH.blk (List.mem_cons_self ..))
    obtain ⟨t0, t1, t2, t3, t4, t5, t6, t7, t8, t9⟩ := pOb_cells (x := ⟨id2, sp2, cab2, rf2, rf12, qp2, qs2, ch2, deb2, intr2⟩) (hH.blk mem1)
    go_upto_region 4 with (first | (go_at_call 9; (with_reducible refine (penc_as hH ⟨id, sp, cab, rf, rf1, qp, qs, ch, deb, intr⟩ KX.out).mono ?_); rintro e w3 ⟨rfl, h3⟩; clear s0 s1 s2 s3 s4 s5 s6 s7 s8 s9 t0 t1 t2 t3 t4 t5 t6 t7 t8 t9; obtain ⟨t0, t1, t2, t3, t4, t5, t6, t7, t8, t9⟩ := pOb_cells (x := ⟨id2, sp2, cab2, rf2, rf12, qp2, qs2, ch2, deb2, intr2⟩) (h3.blk mem1)) | (go_at_call 9; (with_reducible refine (penc_as h3 ⟨id2, sp2, cab2, rf2, rf12, qp2, qs2, ch2, deb2, intr2⟩ KY.out).mono ?_); rintro e w4 ⟨rfl, h4⟩; clear t0 t1 t2 t3 t4 t5 t6 t7 t8 t9))
    clear hH h3
    obtain ⟨s0, s1, s2, s3, s4, s5, s6, s7, s8, s9⟩ := pOb_cells (x := ⟨id, sp, cab, rf, rf1, qp, qs, ch, deb, intr⟩) (h4.blk (List.mem_cons_self ..))
    obtain ⟨t0, t1, t2, t3, t4, t5, t6, t7, t8, t9⟩ := pOb_cells (x := ⟨id2, sp2, cab2, rf2, rf12, qp2, qs2, ch2, deb2, intr2⟩) (h4.blk mem1)
    clear s0 s1 s2 s3 s4 s5 s6 s7 s8 s9 t0 t1 t2 t3 t4 t5 t6 t7 t8 t9
    have h5 := h4
    clear h4
    obtain ⟨⟨sz1, -⟩, sz2, -⟩ := SZ.out
    obtain ⟨M, hM⟩ : ∃ M : Nat, M = min S.size T.size := ⟨_, rfl⟩
    have m1 : M ≤ S.size := by omega
    have m2 : M ≤ T.size := by omega
    have m3 : min (S.size : Int) (T.size : Int) = (M : Int) := by omega
    have M1 : 0 < M := by omega
    have M2 : (0 : Int) < (M : Int) := by omega
    have M3 : decide ((0 : Int) < (M : Int)) = true := by simp; omega
    have M4 : decide (0 < M) = true := by simp; omega
    obtain ⟨A, hA⟩ : ∃ A, S.extract 0 M = A := ⟨_, rfl⟩
    obtain ⟨B, hB⟩ : ∃ B, T.extract 0 M = B := ⟨_, rfl⟩
    have hAB : A = B → (⟨id, sp, cab, rf, rf1, qp, qs, ch, deb, intr⟩ : PpsD) = (⟨id2, sp2, cab2, rf2, rf12, qp2, qs2, ch2, deb2, intr2⟩ : PpsD) := fun h => by have := EX.out M hM (by rw [hA, hB]; exact h); injection this with z1 z2 z3 z4 z5 z6 z7 z8 z9 z10; subst z1 z2 z3 z4 z5 z6 z7 z8 z9 z10; rfl
    haveI : Nonempty (HpW W [] ((b4, pOb ⟨id, sp, cab, rf, rf1, qp, qs, ch, deb, intr⟩) :: (b5, pOb ⟨id2, sp2, cab2, rf2, rf12, qp2, qs2, ch2, deb2, intr2⟩) :: F)) := ⟨⟨_, h5⟩⟩
    have cs0 : ∀ x : HpW W [] ((b4, pOb ⟨id, sp, cab, rf, rf1, qp, qs, ch, deb, intr⟩) :: (b5, pOb ⟨id2, sp2, cab2, rf2, rf12, qp2, qs2, ch2, deb2, intr2⟩) :: F), x.w.cell? ⟨b4, 0, none⟩ = some (.int .i64 id) := fun x => (pOb_cells (x := ⟨id, sp, cab, rf, rf1, qp, qs, ch, deb, intr⟩) (x.h.blk (List.mem_cons_self ..))).1
    have cs1 : ∀ x : HpW W [] ((b4, pOb ⟨id, sp, cab, rf, rf1, qp, qs, ch, deb, intr⟩) :: (b5, pOb ⟨id2, sp2, cab2, rf2, rf12, qp2, qs2, ch2, deb2, intr2⟩) :: F), x.w.cell? ⟨b4, 1, none⟩ = some (.int .i64 sp) := fun x => (pOb_cells (x := ⟨id, sp, cab, rf, rf1, qp, qs, ch, deb, intr⟩) (x.h.blk (List.mem_cons_self ..))).2.1
    have cs2 : ∀ x : HpW W [] ((b4, pOb ⟨id, sp, cab, rf, rf1, qp, qs, ch, deb, intr⟩) :: (b5, pOb ⟨id2, sp2, cab2, rf2, rf12, qp2, qs2, ch2, deb2, intr2⟩) :: F), x.w.cell? ⟨b4, 2, none⟩ = some (.bool cab) := fun x => (pOb_cells (x := ⟨id, sp, cab, rf, rf1, qp, qs, ch, deb, intr⟩) (x.h.blk (List.mem_cons_self ..))).2.2.1
    have cs3 : ∀ x : HpW W [] ((b4, pOb ⟨id, sp, cab, rf, rf1, qp, qs, ch, deb, intr⟩) :: (b5, pOb ⟨id2, sp2, cab2, rf2, rf12, qp2, qs2, ch2, deb2, intr2⟩) :: F), x.w.cell? ⟨b4, 3, none⟩ = some (.int .i64 rf) := fun x => (pOb_cells (x := ⟨id, sp, cab, rf, rf1, qp, qs, ch, deb, intr⟩) (x.h.blk (List.mem_cons_self ..))).2.2.2.1
    have cs4 : ∀ x : HpW W [] ((b4, pOb ⟨id, sp, cab, rf, rf1, qp, qs, ch, deb, intr⟩) :: (b5, pOb ⟨id2, sp2, cab2, rf2, rf12, qp2, qs2, ch2, deb2, intr2⟩) :: F), x.w.cell? ⟨b4, 4, none⟩ = some (.int .i64 rf1) := fun x => (pOb_cells (x := ⟨id, sp, cab, rf, rf1, qp, qs, ch, deb, intr⟩) (x.h.blk (List.mem_cons_self ..))).2.2.2.2.1
    have cs5 : ∀ x : HpW W [] ((b4, pOb ⟨id, sp, cab, rf, rf1, qp, qs, ch, deb, intr⟩) :: (b5, pOb ⟨id2, sp2, cab2, rf2, rf12, qp2, qs2, ch2, deb2, intr2⟩) :: F), x.w.cell? ⟨b4, 5, none⟩ = some (.int .i64 qp) := fun x => (pOb_cells (x := ⟨id, sp, cab, rf, rf1, qp, qs, ch, deb, intr⟩) (x.h.blk (List.mem_cons_self ..))).2.2.2.2.2.1
    have cs6 : ∀ x : HpW W [] ((b4, pOb ⟨id, sp, cab, rf, rf1, qp, qs, ch, deb, intr⟩) :: (b5, pOb ⟨id2, sp2, cab2, rf2, rf12, qp2, qs2, ch2, deb2, intr2⟩) :: F), x.w.cell? ⟨b4, 6, none⟩ = some (.int .i64 qs) := fun x => (pOb_cells (x := ⟨id, sp, cab, rf, rf1, qp, qs, ch, deb, intr⟩) (x.h.blk (List.mem_cons_self ..))).2.2.2.2.2.2.1
    have cs7 : ∀ x : HpW W [] ((b4, pOb ⟨id, sp, cab, rf, rf1, qp, qs, ch, deb, intr⟩) :: (b5, pOb ⟨id2, sp2, cab2, rf2, rf12, qp2, qs2, ch2, deb2, intr2⟩) :: F), x.w.cell? ⟨b4, 7, none⟩ = some (.int .i64 ch) := fun x => (pOb_cells (x := ⟨id, sp, cab, rf, rf1, qp, qs, ch, deb, intr⟩) (x.h.blk (List.mem_cons_self ..))).2.2.2.2.2.2.2.1
    have cs8 : ∀ x : HpW W [] ((b4, pOb ⟨id, sp, cab, rf, rf1, qp, qs, ch, deb, intr⟩) :: (b5, pOb ⟨id2, sp2, cab2, rf2, rf12, qp2, qs2, ch2, deb2, intr2⟩) :: F), x.w.cell? ⟨b4, 8, none⟩ = some (.bool deb) := fun x => (pOb_cells (x := ⟨id, sp, cab, rf, rf1, qp, qs, ch, deb, intr⟩) (x.h.blk (List.mem_cons_self ..))).2.2.2.2.2.2.2.2.1
    have cs9 : ∀ x : HpW W [] ((b4, pOb ⟨id, sp, cab, rf, rf1, qp, qs, ch, deb, intr⟩) :: (b5, pOb ⟨id2, sp2, cab2, rf2, rf12, qp2, qs2, ch2, deb2, intr2⟩) :: F), x.w.cell? ⟨b4, 9, none⟩ = some (.bool intr) := fun x => (pOb_cells (x := ⟨id, sp, cab, rf, rf1, qp, qs, ch, deb, intr⟩) (x.h.blk (List.mem_cons_self ..))).2.2.2.2.2.2.2.2.2
    have ct0 : ∀ x : HpW W [] ((b4, pOb ⟨id, sp, cab, rf, rf1, qp, qs, ch, deb, intr⟩) :: (b5, pOb ⟨id2, sp2, cab2, rf2, rf12, qp2, qs2, ch2, deb2, intr2⟩) :: F), x.w.cell? ⟨b5, 0, none⟩ = some (.int .i64 id2) := fun x => (pOb_cells (x := ⟨id2, sp2, cab2, rf2, rf12, qp2, qs2, ch2, deb2, intr2⟩) (x.h.blk mem1)).1
    have ct1 : ∀ x : HpW W [] ((b4, pOb ⟨id, sp, cab, rf, rf1, qp, qs, ch, deb, intr⟩) :: (b5, pOb ⟨id2, sp2, cab2, rf2, rf12, qp2, qs2, ch2, deb2, intr2⟩) :: F), x.w.cell? ⟨b5, 1, none⟩ = some (.int .i64 sp2) := fun x => (pOb_cells (x := ⟨id2, sp2, cab2, rf2, rf12, qp2, qs2, ch2, deb2, intr2⟩) (x.h.blk mem1)).2.1
    have ct2 : ∀ x : HpW W [] ((b4, pOb ⟨id, sp, cab, rf, rf1, qp, qs, ch, deb, intr⟩) :: (b5, pOb ⟨id2, sp2, cab2, rf2, rf12, qp2, qs2, ch2, deb2, intr2⟩) :: F), x.w.cell? ⟨b5, 2, none⟩ = some (.bool cab2) := fun x => (pOb_cells (x := ⟨id2, sp2, cab2, rf2, rf12, qp2, qs2, ch2, deb2, intr2⟩) (x.h.blk mem1)).2.2.1
    have ct3 : ∀ x : HpW W [] ((b4, pOb ⟨id, sp, cab, rf, rf1, qp, qs, ch, deb, intr⟩) :: (b5, pOb ⟨id2, sp2, cab2, rf2, rf12, qp2, qs2, ch2, deb2, intr2⟩) :: F), x.w.cell? ⟨b5, 3, none⟩ = some (.int .i64 rf2) := fun x => (pOb_cells (x := ⟨id2, sp2, cab2, rf2, rf12, qp2, qs2, ch2, deb2, intr2⟩) (x.h.blk mem1)).2.2.2.1
    have ct4 : ∀ x : HpW W [] ((b4, pOb ⟨id, sp, cab, rf, rf1, qp, qs, ch, deb, intr⟩) :: (b5, pOb ⟨id2, sp2, cab2, rf2, rf12, qp2, qs2, ch2, deb2, intr2⟩) :: F), x.w.cell? ⟨b5, 4, none⟩ = some (.int .i64 rf12) := fun x => (pOb_cells (x := ⟨id2, sp2, cab2, rf2, rf12, qp2, qs2, ch2, deb2, intr2⟩) (x.h.blk mem1)).2.2.2.2.1
    have ct5 : ∀ x : HpW W [] ((b4, pOb ⟨id, sp, cab, rf, rf1, qp, qs, ch, deb, intr⟩) :: (b5, pOb ⟨id2, sp2, cab2, rf2, rf12, qp2, qs2, ch2, deb2, intr2⟩) :: F), x.w.cell? ⟨b5, 5, none⟩ = some (.int .i64 qp2) := fun x => (pOb_cells (x := ⟨id2, sp2, cab2, rf2, rf12, qp2, qs2, ch2, deb2, intr2⟩) (x.h.blk mem1)).2.2.2.2.2.1
    have ct6 : ∀ x : HpW W [] ((b4, pOb ⟨id, sp, cab, rf, rf1, qp, qs, ch, deb, intr⟩) :: (b5, pOb ⟨id2, sp2, cab2, rf2, rf12, qp2, qs2, ch2, deb2, intr2⟩) :: F), x.w.cell? ⟨b5, 6, none⟩ = some (.int .i64 qs2) := fun x => (pOb_cells (x := ⟨id2, sp2, cab2, rf2, rf12, qp2, qs2, ch2, deb2, intr2⟩) (x.h.blk mem1)).2.2.2.2.2.2.1
    have ct7 : ∀ x : HpW W [] ((b4, pOb ⟨id, sp, cab, rf, rf1, qp, qs, ch, deb, intr⟩) :: (b5, pOb ⟨id2, sp2, cab2, rf2, rf12, qp2, qs2, ch2, deb2, intr2⟩) :: F), x.w.cell? ⟨b5, 7, none⟩ = some (.int .i64 ch2) := fun x => (pOb_cells (x := ⟨id2, sp2, cab2, rf2, rf12, qp2, qs2, ch2, deb2, intr2⟩) (x.h.blk mem1)).2.2.2.2.2.2.2.1
    have ct8 : ∀ x : HpW W [] ((b4, pOb ⟨id, sp, cab, rf, rf1, qp, qs, ch, deb, intr⟩) :: (b5, pOb ⟨id2, sp2, cab2, rf2, rf12, qp2, qs2, ch2, deb2, intr2⟩) :: F), x.w.cell? ⟨b5, 8, none⟩ = some (.bool deb2) := fun x => (pOb_cells (x := ⟨id2, sp2, cab2, rf2, rf12, qp2, qs2, ch2, deb2, intr2⟩) (x.h.blk mem1)).2.2.2.2.2.2.2.2.1
    have ct9 : ∀ x : HpW W [] ((b4, pOb ⟨id, sp, cab, rf, rf1, qp, qs, ch, deb, intr⟩) :: (b5, pOb ⟨id2, sp2, cab2, rf2, rf12, qp2, qs2, ch2, deb2, intr2⟩) :: F), x.w.cell? ⟨b5, 9, none⟩ = some (.bool intr2) := fun x => (pOb_cells (x := ⟨id2, sp2, cab2, rf2, rf12, qp2, qs2, ch2, deb2, intr2⟩) (x.h.blk mem1)).2.2.2.2.2.2.2.2.2
    clear hM SZ EX sz1 sz2
    by_cases hxy : (⟨id, sp, cab, rf, rf1, qp, qs, ch, deb, intr⟩ : PpsD) = (⟨id2, sp2, cab2, rf2, rf12, qp2, qs2, ch2, deb2, intr2⟩ : PpsD)
    · injection hxy with z1 z2 z3 z4 z5 z6 z7 z8 z9 z10
      subst z1 z2 z3 z4 z5 z6 z7 z8 z9 z10
      have hST := ST.out rfl
      subst hST
      have hh := hA.symm.trans hB
      subst hh
      clear hB hAB m2
      have E2 : ∀ w, (Op.equalIn 10000 23 (pv ⟨id, sp, cab, rf, rf1, qp, qs, ch, deb, intr⟩) (pv ⟨id, sp, cab, rf, rf1, qp, qs, ch, deb, intr⟩)).run Try.prog w = .ok true w := fun w => by rw [pps_eq, decide_eq_true rfl]
      have H5 := Lib.hid h5
      clear h5
      go_wp2_with (fail)
      refine wp_region_hp H5.out (by kernel_rfl) (by kernel_rfl) ?_
      repeat (go_big_quiet_step ((first | (go_at_call 13; with_reducible exact HpW.call (awake_any7 (HpW.h _))))))
      refine wpQuiet_nil ?_
      rintro _ ⟨⟨wq, hq⟩, rfl⟩
      go_wp2_with (fail)
      exact bodyPost_ret (results_tmp rfl _ _ _) rfl ⟨rfl, hq.below⟩
    · have hne : A ≠ B := fun h => hxy (hAB h)
      have e1 : (A.toList == B.toList) = false := by rw [bytes_beq, decide_eq_false hne]
      have e2 : decide (A = B) = false := by simp [hne]
      have E2 : ∀ w, (Op.equalIn 10000 23 (pv ⟨id, sp, cab, rf, rf1, qp, qs, ch, deb, intr⟩) (pv ⟨id2, sp2, cab2, rf2, rf12, qp2, qs2, ch2, deb2, intr2⟩)).run Try.prog w = .ok false w := fun w => by rw [pps_eq, decide_eq_false hxy]
      clear hxy hAB
      have H5 := Lib.hid h5
      clear h5
      go_wp2_with (fail)
      refine wp_region_hp H5.out (by kernel_rfl) (by kernel_rfl) ?_
      repeat (go_big_quiet_step ((first | (go_at_call 13; with_reducible exact HpW.call (awake_any7 (HpW.h _))))))
      refine wpQuiet_nil ?_
      rintro _ ⟨⟨wq, hq⟩, rfl⟩
      go_wp2_with (fail)
      exact bodyPost_ret (results_tmp rfl _ _ _) rfl ⟨rfl, hq.below⟩
end Go.Proofs.Ytkaoeilijdeioaa
