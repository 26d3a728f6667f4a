/- PpsMatches, PpsReads. -/
import Derived.Test.YtkaoeilijdeioaaZc
namespace Go.Proofs.Ytkaoeilijdeioaa
open Go.RowKit
set_option linter.unusedVariables false
set_option maxRecDepth 100000
set_option linter.unusedSimpArgs false

set_option maxHeartbeats 2000000 in
theorem pmatches_any {W w : World} {L : List AObj} {F : List (Nat × Obj)} (h : Hp W w L F) (x : PpsD) :
    Calls Try.prog 3 #[pv x] w fun e w' => e = .returned (.bool true) ∧ Hp W w' L F := by
  obtain ⟨S, hS⟩ : ∃ S, pPay x = S := ⟨_, rfl⟩
  obtain ⟨er, he⟩ : ∃ e, pErr x = e := ⟨_, rfl⟩
  have K := Lib.hid (And.intro hS he)
  have H := Lib.hid h
  clear hS he h
  obtain ⟨id, sp, cab, rf, rf1, qp, qs, ch, deb, intr⟩ := x
  have e1 : (er == er) = true := by simp
  go_enter Try.func3, Try.ntmps3
  go_upto_region 3 with (first | (go_at_call 9; (with_reducible refine (penc_as (H.out.alloc (pOb ⟨id, sp, cab, rf, rf1, qp, qs, ch, deb, intr⟩)) ⟨id, sp, cab, rf, rf1, qp, qs, ch, deb, intr⟩ K.out).mono ?_); rintro e w1 ⟨rfl, h1⟩; obtain ⟨s0, s1, s2, s3, s4, s5, s6, s7, s8, s9⟩ := pOb_cells (x := ⟨id, sp, cab, rf, rf1, qp, qs, ch, deb, intr⟩) (h1.blk (List.mem_cons_self ..))) | (go_at_call 10; (with_reducible refine (rpenc_as h1 ⟨id, sp, cab, rf, rf1, qp, qs, ch, deb, intr⟩ K.out).mono ?_); rintro e w2 ⟨rfl, h2⟩; clear h1 s0 s1 s2 s3 s4 s5 s6 s7 s8 s9))
  generalize w.heap.size = q at *
  haveI : Nonempty (HpW W L ((q, pOb ⟨id, sp, cab, rf, rf1, qp, qs, ch, deb, intr⟩) :: F)) := ⟨⟨_, h2⟩⟩
  have c0 : ∀ x : HpW W L ((q, pOb ⟨id, sp, cab, rf, rf1, qp, qs, ch, deb, intr⟩) :: F), x.w.cell? ⟨q, 0, none⟩ = some (.int .i64 id) := fun x => (pOb_cells (x.h.blk (List.mem_cons_self ..))).1
  have c1 : ∀ x : HpW W L ((q, pOb ⟨id, sp, cab, rf, rf1, qp, qs, ch, deb, intr⟩) :: F), x.w.cell? ⟨q, 1, none⟩ = some (.int .i64 sp) := fun x => (pOb_cells (x.h.blk (List.mem_cons_self ..))).2.1
  have c2 : ∀ x : HpW W L ((q, pOb ⟨id, sp, cab, rf, rf1, qp, qs, ch, deb, intr⟩) :: F), x.w.cell? ⟨q, 2, none⟩ = some (.bool cab) := fun x => (pOb_cells (x.h.blk (List.mem_cons_self ..))).2.2.1
  have c3 : ∀ x : HpW W L ((q, pOb ⟨id, sp, cab, rf, rf1, qp, qs, ch, deb, intr⟩) :: F), x.w.cell? ⟨q, 3, none⟩ = some (.int .i64 rf) := fun x => (pOb_cells (x.h.blk (List.mem_cons_self ..))).2.2.2.1
  have c4 : ∀ x : HpW W L ((q, pOb ⟨id, sp, cab, rf, rf1, qp, qs, ch, deb, intr⟩) :: F), x.w.cell? ⟨q, 4, none⟩ = some (.int .i64 rf1) := fun x => (pOb_cells (x.h.blk (List.mem_cons_self ..))).2.2.2.2.1
  have c5 : ∀ x : HpW W L ((q, pOb ⟨id, sp, cab, rf, rf1, qp, qs, ch, deb, intr⟩) :: F), x.w.cell? ⟨q, 5, none⟩ = some (.int .i64 qp) := fun x => (pOb_cells (x.h.blk (List.mem_cons_self ..))).2.2.2.2.2.1
  have c6 : ∀ x : HpW W L ((q, pOb ⟨id, sp, cab, rf, rf1, qp, qs, ch, deb, intr⟩) :: F), x.w.cell? ⟨q, 6, none⟩ = some (.int .i64 qs) := fun x => (pOb_cells (x.h.blk (List.mem_cons_self ..))).2.2.2.2.2.2.1
  have c7 : ∀ x : HpW W L ((q, pOb ⟨id, sp, cab, rf, rf1, qp, qs, ch, deb, intr⟩) :: F), x.w.cell? ⟨q, 7, none⟩ = some (.int .i64 ch) := fun x => (pOb_cells (x.h.blk (List.mem_cons_self ..))).2.2.2.2.2.2.2.1
  have c8 : ∀ x : HpW W L ((q, pOb ⟨id, sp, cab, rf, rf1, qp, qs, ch, deb, intr⟩) :: F), x.w.cell? ⟨q, 8, none⟩ = some (.bool deb) := fun x => (pOb_cells (x.h.blk (List.mem_cons_self ..))).2.2.2.2.2.2.2.2.1
  have c9 : ∀ x : HpW W L ((q, pOb ⟨id, sp, cab, rf, rf1, qp, qs, ch, deb, intr⟩) :: F), x.w.cell? ⟨q, 9, none⟩ = some (.bool intr) := fun x => (pOb_cells (x.h.blk (List.mem_cons_self ..))).2.2.2.2.2.2.2.2.2
  have HB := Lib.hid h2
  clear h2
  refine wp_region_hp HB.out (by kernel_rfl) (by kernel_rfl) ?_
  repeat (go_big_quiet_step ((first | (go_at_call 11; with_reducible exact HpW.call (pcheck_as (HpW.h _) ⟨id, sp, cab, rf, rf1, qp, qs, ch, deb, intr⟩ K.out.2)) | (go_at_call 12; with_reducible exact HpW.call (rpcheck_as (HpW.h _) ⟨id, sp, cab, rf, rf1, qp, qs, ch, deb, intr⟩ K.out.2)) | (go_at_call 13; with_reducible exact HpW.call (awake_any7 (HpW.h _))))))
  refine wpQuiet_nil ?_
  rintro _ ⟨⟨wq, hq⟩, rfl⟩
  go_wp2_with (fail)
  exact bodyPost_ret (results_tmp rfl _ _ _) rfl ⟨rfl, hq.drop⟩

set_option maxHeartbeats 2000000 in
theorem preads_any {W w : World} {L : List AObj} {F : List (Nat × Obj)} (h : Hp W w L F) (s : ByteArray) (hs : s.size ≤ maxLen) :
    Calls Try.prog 4 #[.string s] w fun e w' => e = .returned (.bool true) ∧ Hp W w' L F := by
  obtain ⟨M, hM⟩ : ∃ M : Nat, min s.size 40 = M := ⟨_, rfl⟩
  have m1 : M ≤ s.size := by omega
  have m2 : M ≤ 40 := by omega
  have m3 : min (s.size : Int) 40 = (M : Int) := by omega
  have m4 : (s.extract 0 M).size ≤ 2 ^ 48 := by rw [ByteArray.size_extract]; omega
  obtain ⟨x, hx⟩ : ∃ x, (pDec (s.extract 0 M)).1 = x := ⟨_, rfl⟩
  obtain ⟨er, he⟩ : ∃ e, (pDec (s.extract 0 M)).2 = e := ⟨_, rfl⟩
  have K := Lib.hid (show pDec (s.extract 0 M) = (x, er) by rw [← hx, ← he])
  have Z := Lib.hid m4
  have H := Lib.hid h
  clear hM hx he h m4
  have e1 : (er == er) = true := by simp
  have E2 : ∀ w, (Op.equalIn 10000 23 (pv x) (pv x)).run Try.prog w = .ok true w := fun w => by rw [pps_eq, decide_eq_true rfl]
  obtain ⟨id, sp, cab, rf, rf1, qp, qs, ch, deb, intr⟩ := x
  go_enter Try.func4, Try.ntmps4
  go_upto_region 4 with (first | (go_at_call 14; (with_reducible refine (pdec_as H.out _ Z.out K.out).mono ?_); rintro e w1 ⟨rfl, h1⟩) | (go_at_call 15; (with_reducible refine (rpdec_as (h1.alloc (pOb ⟨id, sp, cab, rf, rf1, qp, qs, ch, deb, intr⟩)) _ Z.out K.out).mono ?_); rintro e w2 ⟨rfl, h2⟩))
  have h3 := h2.alloc (pOb ⟨id, sp, cab, rf, rf1, qp, qs, ch, deb, intr⟩)
  clear h1 h2
  generalize (w2.alloc (.cells #[.int .i64 id, .int .i64 sp, .bool cab, .int .i64 rf, .int .i64 rf1, .int .i64 qp, .int .i64 qs, .int .i64 ch, .bool deb, .bool intr] 23 (0, 0))) = w3 at h3 ⊢
  generalize w1.heap.size = q1 at *
  generalize w2.heap.size = q2 at *
  obtain ⟨s0, s1, s2, s3, s4, s5, s6, s7, s8, s9⟩ := pOb_cells (x := ⟨id, sp, cab, rf, rf1, qp, qs, ch, deb, intr⟩) (h3.blk mem1)
  obtain ⟨t0, t1, t2, t3, t4, t5, t6, t7, t8, t9⟩ := pOb_cells (x := ⟨id, sp, cab, rf, rf1, qp, qs, ch, deb, intr⟩) (h3.blk (List.mem_cons_self ..))
  go_wp2_with (first | (go_at_call 13; (with_reducible refine (awake_any7 h3).mono ?_); rintro e w4 ⟨rfl, h4⟩))
  exact bodyPost_ret (results_tmp rfl _ _ _) rfl ⟨rfl, h4.drop.drop⟩
theorem pmatches_walk (x : PpsD) (W : World) : Calls Try.prog 3 #[pv x] W fun e w' => e = .returned (.bool true) ∧ Below W.heap.size W w' :=
  (pmatches_any (Hp.start W) x).mono fun _ _ ⟨he, hw⟩ => ⟨he, hw.below⟩
theorem preads_walk (s : ByteArray) (hs : s.size ≤ maxLen) (W : World) : Calls Try.prog 4 #[.string s] W fun e w' => e = .returned (.bool true) ∧ Below W.heap.size W w' :=
  (preads_any (Hp.start W) s hs).mono fun _ _ ⟨he, hw⟩ => ⟨he, hw.below⟩
end Go.Proofs.Ytkaoeilijdeioaa
