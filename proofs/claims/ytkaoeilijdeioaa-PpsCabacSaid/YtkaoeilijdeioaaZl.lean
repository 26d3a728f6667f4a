/- PpsCabac. -/
import Derived.Test.YtkaoeilijdeioaaZf
import Derived.Test.YtkaoeilijdeioaaYu
import Derived.Test.YtkaoeilijdeioaaZk
import Derived.Test.YtkaoeilijdeioaaShelf
import Derived.Test.YtkaoeilijdeioaaReg
import Derived.Deep.CutBlock
import Derived.Deep.QuietTactic
import Derived.Laws.BitsAllLaws
import Derived.Deep.RegionHeld3
namespace Go.Proofs.Ytkaoeilijdeioaa
open Go.RowKit
set_option linter.unusedVariables false
set_option maxRecDepth 100000
set_option linter.unusedSimpArgs false

section
variable {α : Type} {a b c : α} {l : List α}
theorem p213 : (a :: b :: c :: l).Perm (b :: a :: c :: l) := .swap _ _ _
theorem p132 : (a :: b :: c :: l).Perm (a :: c :: b :: l) := .cons _ (.swap _ _ _)
theorem p231 : (a :: b :: c :: l).Perm (b :: c :: a :: l) := p213.trans p132
theorem p312 : (a :: b :: c :: l).Perm (c :: a :: b :: l) := p132.trans p213
theorem p321 : (a :: b :: c :: l).Perm (c :: b :: a :: l) := p312.trans p132
end
theorem Hp.ne4 {W w : World} {L : List AObj} {F : List (Nat × Obj)} {a b c d : Nat × Obj} (h : Hp W w L (a :: b :: c :: d :: F)) : a.1 ≠ b.1 ∧ a.1 ≠ c.1 ∧ a.1 ≠ d.1 ∧ b.1 ≠ c.1 ∧ b.1 ≠ d.1 ∧ c.1 ≠ d.1 := by
  obtain ⟨_, o, _, _, hn, _⟩ := h
  simp only [List.map_cons, List.nodup_cons, List.mem_cons, not_or] at hn
  exact ⟨hn.1.1, hn.1.2.1, hn.1.2.2.1, hn.2.1.1, hn.2.1.2.1, hn.2.2.1.1⟩

theorem ones_as {Z : Nat} (hz : Z < 256) (h : Lib.onesCount Z = 1) (w : World) : Calls Try.prog 18 #[.int .u8 (Z : Int)] w fun e w' => e = .returned (.int .i64 1) ∧ w = w' := by
  refine (Try.bits_OnesCount8 (Z : Int) w (by omega) (by omega)).mono fun e w' ⟨he, hw⟩ => ⟨?_, hw.symm⟩
  rw [he, Int.toNat_natCast, h]; rfl
theorem lead_as {Z m : Nat} (hz : Z < 256) (h : (8 - (Lib.bitLen Z : Int)) = (m : Int)) (w : World) : Calls Try.prog 19 #[.int .u8 (Z : Int)] w fun e w' => e = .returned (.int .i64 (m : Int)) ∧ w = w' := by
  refine (Try.bits_LeadingZeros8 (Z : Int) w (by omega) (by omega)).mono fun e w' ⟨he, hw⟩ => ⟨?_, hw.symm⟩
  rw [he, Int.toNat_natCast, h]

set_option maxHeartbeats 8000000 in
theorem pcabac_walk (n0 n1 n2 n3 n4 n5 n6 n7 : Int) (b0 : In64 n0) (b1 : In64 n1) (b2 : In64 n2) (b3 : In64 n3) (b4 : In64 n4) (b5 : In64 n5) (b6 : In64 n6) (W : World) :
    Calls Try.prog 8 #[.agg #[.int .i64 n0, .int .i64 n1, .int .i64 n2, .int .i64 n3, .int .i64 n4, .int .i64 n5, .int .i64 n6, .int .i64 n7]] W fun e w' => e = .returned (.bool true) ∧ Below W.heap.size W w' := by
  obtain ⟨x, ok, V⟩ := valid_any n0 n1 n2 n3 n4 n5 n6 n7 b0 b1 b2 b3 b4 b5 b6
  obtain ⟨id, sp, cab, rf, rf1, qp, qs, ch, deb, intr⟩ := x
  obtain ⟨p1, p2, p3, l12, l23, o1, o2, o3⟩ := cabac_law ok
  obtain ⟨S, hS⟩ : ∃ T, pPay ⟨id, sp, cab, rf, rf1, qp, qs, ch, deb, intr⟩ = T := ⟨_, rfl⟩
  obtain ⟨T1, hT1⟩ : ∃ T, pPay ⟨id, sp, !cab, rf, rf1, qp, qs, ch, deb, intr⟩ = T := ⟨_, rfl⟩
  obtain ⟨T2, hT2⟩ : ∃ T, pPay ⟨id, sp, cab, rf, rf1, qp, qs, ch, !deb, intr⟩ = T := ⟨_, rfl⟩
  obtain ⟨T3, hT3⟩ : ∃ T, pPay ⟨id, sp, cab, rf, rf1, qp, qs, ch, deb, !intr⟩ = T := ⟨_, rfl⟩
  have ez : ∀ {y : PpsD}, okP y = true → pErr y = 0 := fun h => by unfold pErr; rw [if_pos h]
  have K0 := Lib.hid (And.intro hS (ez ok))
  have K1 := Lib.hid (show pPay ⟨id, sp, !cab, rf, rf1, qp, qs, ch, deb, intr⟩ = T1 ∧ pErr ⟨id, sp, !cab, rf, rf1, qp, qs, ch, deb, intr⟩ = 0 from ⟨hT1, ez (okP_bools ok)⟩)
  have K2 := Lib.hid (show pPay ⟨id, sp, cab, rf, rf1, qp, qs, ch, !deb, intr⟩ = T2 ∧ pErr ⟨id, sp, cab, rf, rf1, qp, qs, ch, !deb, intr⟩ = 0 from ⟨hT2, ez (okP_bools ok)⟩)
  have K3 := Lib.hid (show pPay ⟨id, sp, cab, rf, rf1, qp, qs, ch, deb, !intr⟩ = T3 ∧ pErr ⟨id, sp, cab, rf, rf1, qp, qs, ch, deb, !intr⟩ = 0 from ⟨hT3, ez (okP_bools ok)⟩)
  rw [hS, hT1] at o1
  rw [hS, hT2] at o2
  rw [hS, hT3] at o3
  have SZ := Lib.hid (show S.size ≤ 11 by rw [← hS]; exact (pPay_size ok).2)
  have O1 := Lib.hid o1
  have O2 := Lib.hid o2
  have O3 := Lib.hid o3
  have L := Lib.hid (And.intro l12 l23)
  have HV := Lib.hid V
  have H := Lib.hid (Hp.start W)
  clear ok V hS hT1 hT2 hT3 o1 o2 o3 l12 l23 ez b0 b1 b2 b3 b4 b5 b6
  go_enter Try.func8, Try.ntmps8
  go_upto_region 2 with (first | (go_at_call 17; (with_reducible refine (HV.out _ _ _ _ (H.out.alloc (n8Ob n0 n1 n2 n3 n4 n5 n6 n7))).mono ?_); rintro e w1 ⟨rfl, h1⟩))
  have h2 := h1.alloc (pOb ⟨id, sp, cab, rf, rf1, qp, qs, ch, deb, intr⟩)
  clear h1
  generalize (w1.alloc (.cells #[.int .i64 id, .int .i64 sp, .bool cab, .int .i64 rf, .int .i64 rf1, .int .i64 qp, .int .i64 qs, .int .i64 ch, .bool deb, .bool intr] 23 (0, 0))) = w2 at h2 ⊢
  generalize w1.heap.size = k at *
  obtain ⟨F, hF⟩ : ∃ F : List (Nat × Obj), ((k, pOb ⟨id, sp, cab, rf, rf1, qp, qs, ch, deb, intr⟩) :: [(W.heap.size, n8Ob n0 n1 n2 n3 n4 n5 n6 n7)]) = F := ⟨_, rfl⟩
  have hK : ∀ w', Hp W w' [] F → (w'.cell? ⟨k, 0, none⟩ = some (.int .i64 id) ∧ w'.cell? ⟨k, 1, none⟩ = some (.int .i64 sp) ∧ w'.cell? ⟨k, 2, none⟩ = some (.bool cab) ∧ w'.cell? ⟨k, 3, none⟩ = some (.int .i64 rf) ∧ w'.cell? ⟨k, 4, none⟩ = some (.int .i64 rf1) ∧ w'.cell? ⟨k, 5, none⟩ = some (.int .i64 qp) ∧ w'.cell? ⟨k, 6, none⟩ = some (.int .i64 qs) ∧ w'.cell? ⟨k, 7, none⟩ = some (.int .i64 ch) ∧ w'.cell? ⟨k, 8, none⟩ = some (.bool deb) ∧ w'.cell? ⟨k, 9, none⟩ = some (.bool intr)) := fun w' hh => by
    subst hF
    exact pOb_cells (x := ⟨id, sp, cab, rf, rf1, qp, qs, ch, deb, intr⟩) (hh.blk (List.mem_cons_self ..))
  rw [hF] at h2
  have HK := Lib.hid hK
  have HF := Lib.hid hF
  have H2 := Lib.hid h2
  have hA := ((h2.alloc (pOb ⟨id, sp, cab, rf, rf1, qp, qs, ch, deb, intr⟩)).alloc (pOb ⟨id, sp, cab, rf, rf1, qp, qs, ch, deb, intr⟩)).alloc (pOb ⟨id, sp, cab, rf, rf1, qp, qs, ch, deb, intr⟩)
  simp only [World.size_alloc] at hA
  have HA := Lib.hid hA.drew
  clear hF hK h2 hA
  go_cut [4, 5, 6] from 7 (fun s4 s5 s6 wx => ∃ a4 a5 a6 : Nat, s4 = .pointer (some ⟨a4, 0, none⟩) ∧ s5 = .pointer (some ⟨a5, 0, none⟩) ∧ s6 = .pointer (some ⟨a6, 0, none⟩) ∧ Hp W wx [] ((a4, pOb ⟨id, sp, cab, rf, rf1, qp, qs, ch, deb, intr⟩) :: (a5, pOb ⟨id, sp, cab, rf, rf1, qp, qs, ch, deb, intr⟩) :: (a6, pOb ⟨id, sp, cab, rf, rf1, qp, qs, ch, deb, intr⟩) :: F))
  case first =>
    go_region_held3 (fun w' => w'.cell? ⟨k, 0, none⟩ = some (.int .i64 id) ∧ w'.cell? ⟨k, 1, none⟩ = some (.int .i64 sp) ∧ w'.cell? ⟨k, 2, none⟩ = some (.bool cab) ∧ w'.cell? ⟨k, 3, none⟩ = some (.int .i64 rf) ∧ w'.cell? ⟨k, 4, none⟩ = some (.int .i64 rf1) ∧ w'.cell? ⟨k, 5, none⟩ = some (.int .i64 qp) ∧ w'.cell? ⟨k, 6, none⟩ = some (.int .i64 qs) ∧ w'.cell? ⟨k, 7, none⟩ = some (.int .i64 ch) ∧ w'.cell? ⟨k, 8, none⟩ = some (.bool deb) ∧ w'.cell? ⟨k, 9, none⟩ = some (.bool intr)) (first | exact HK.out _ H2.out | exact HK.out _ H2.out.drew | exact HK.out _ (H2.out.lost _).drew | exact HK.out _ ((H2.out.lost _).lost _).drew | exact HK.out _ (((H2.out.lost _).lost _).lost _).drew | go_keep) (fail)
    all_goals (go_wp2_with (fail))
    all_goals go_meet
    all_goals exact ⟨_, _, _, rfl, rfl, rfl, by first | exact HA.out | exact HA.out.perm p213 | exact HA.out.perm p132 | exact HA.out.perm p231 | exact HA.out.perm p312 | exact HA.out.perm p321⟩
  case rest =>
    obtain ⟨a4, a5, a6, rfl, rfl, rfl, h3⟩ := hcut
    have hF := HF.out
    subst hF
    clear HF HK HA H2
    obtain ⟨d1, d2, d3, d4, d5, d6⟩ := h3.ne4
    have d1' := Ne.symm d1; have d2' := Ne.symm d2; have d3' := Ne.symm d3; have d4' := Ne.symm d4; have d5' := Ne.symm d5; have d6' := Ne.symm d6
    obtain ⟨s0, s1, s2, s3, s4, s5, s6, s7, s8, s9⟩ := pOb_cells (x := ⟨id, sp, cab, rf, rf1, qp, qs, ch, deb, intr⟩) (h3.blk mem3)
    have q2 := (pOb_cells (x := ⟨id, sp, cab, rf, rf1, qp, qs, ch, deb, intr⟩) (h3.blk (List.mem_cons_self ..))).2.2.1
    have q8 := (pOb_cells (x := ⟨id, sp, cab, rf, rf1, qp, qs, ch, deb, intr⟩) (h3.blk mem1)).2.2.2.2.2.2.2.2.1
    have q9 := (pOb_cells (x := ⟨id, sp, cab, rf, rf1, qp, qs, ch, deb, intr⟩) (h3.blk mem2)).2.2.2.2.2.2.2.2.2
    have f2 := (pOb_free (x := ⟨id, sp, cab, rf, rf1, qp, qs, ch, deb, intr⟩) (h3.blk (List.mem_cons_self ..))).2.2.1
    have f8 := (pOb_free (x := ⟨id, sp, cab, rf, rf1, qp, qs, ch, deb, intr⟩) (h3.blk mem1)).2.2.2.2.2.2.2.2.1
    have f9 := (pOb_free (x := ⟨id, sp, cab, rf, rf1, qp, qs, ch, deb, intr⟩) (h3.blk mem2)).2.2.2.2.2.2.2.2.2
    clear s0 s1 s3 s4 s5 s6 s7
    go_upto_region 3 with (fail)
    go_region_held3 (fun w' => w'.cell? ⟨k, 2, none⟩ = some (.bool cab) ∧ w'.cell? ⟨k, 8, none⟩ = some (.bool deb) ∧ w'.cell? ⟨k, 9, none⟩ = some (.bool intr)) (first | exact ⟨s2, s8, s9⟩ | go_keep) (fail)
    have h4 : Hp W (((wc.setCell ⟨a4, 2, none⟩ (.bool !cab)).setCell ⟨a5, 8, none⟩ (.bool !deb)).setCell ⟨a6, 9, none⟩ (.bool !intr)).drew [] ((a4, pOb ⟨id, sp, !cab, rf, rf1, qp, qs, ch, deb, intr⟩) :: (a5, pOb ⟨id, sp, cab, rf, rf1, qp, qs, ch, !deb, intr⟩) :: (a6, pOb ⟨id, sp, cab, rf, rf1, qp, qs, ch, deb, !intr⟩) :: (k, pOb ⟨id, sp, cab, rf, rf1, qp, qs, ch, deb, intr⟩) :: [(W.heap.size, n8Ob n0 n1 n2 n3 n4 n5 n6 n7)]) := (((h3.set 0 rfl 2 (.bool !cab)).set 1 rfl 8 (.bool !deb)).set 2 rfl 9 (.bool !intr)).drew
    clear h3 s2 s8 s9 q2 q8 q9 f2 f8 f9 d1 d2 d3 d4 d5 d6 d1' d2' d3' d4' d5' d6'
    generalize (((wc.setCell ⟨a4, 2, none⟩ (.bool !cab)).setCell ⟨a5, 8, none⟩ (.bool !deb)).setCell ⟨a6, 9, none⟩ (.bool !intr)).drew = w5 at h4 ⊢
    obtain ⟨nc, hnc⟩ : ∃ b, b = !cab := ⟨_, rfl⟩
    obtain ⟨nd, hnd⟩ : ∃ b, b = !deb := ⟨_, rfl⟩
    obtain ⟨ni, hni⟩ : ∃ b, b = !intr := ⟨_, rfl⟩
    rw [← hnc] at K1 h4 ⊢
    rw [← hnd] at K2 h4 ⊢
    rw [← hni] at K3 h4 ⊢
    clear hnc hnd hni
    obtain ⟨s0, s1, s2, s3, s4, s5, s6, s7, s8, s9⟩ := pOb_cells (x := ⟨id, sp, cab, rf, rf1, qp, qs, ch, deb, intr⟩) (h4.blk mem3)
    go_upto_region 8 with (first | (go_at_call 9; (with_reducible refine (penc_as h4 ⟨id, sp, cab, rf, rf1, qp, qs, ch, deb, intr⟩ K0.out).mono ?_); rintro e w6 ⟨rfl, h6⟩; clear h4 s0 s1 s2 s3 s4 s5 s6 s7 s8 s9))
    obtain ⟨s0, s1, s2, s3, s4, s5, s6, s7, s8, s9⟩ := pOb_cells (x := ⟨id, sp, nc, rf, rf1, qp, qs, ch, deb, intr⟩) (h6.blk (List.mem_cons_self ..))
    obtain ⟨t0, t1, t2, t3, t4, t5, t6, t7, t8, t9⟩ := pOb_cells (x := ⟨id, sp, cab, rf, rf1, qp, qs, ch, nd, intr⟩) (h6.blk mem1)
    obtain ⟨r0, r1, r2, r3, r4, r5, r6, r7, r8, r9⟩ := pOb_cells (x := ⟨id, sp, cab, rf, rf1, qp, qs, ch, deb, ni⟩) (h6.blk mem2)
    have H6 := Lib.hid h6
    clear h6
    go_wp2_with (fail)
    clear s0 s1 s2 s3 s4 s5 s6 s7 s8 s9 t0 t1 t2 t3 t4 t5 t6 t7 t8 t9 r0 r1 r2 r3 r4 r5 r6 r7 r8 r9
    obtain ⟨lt12, lt23⟩ := L.out
    obtain ⟨FF, hFF⟩ : ∃ F : List (Nat × Obj), ((a4, pOb ⟨id, sp, nc, rf, rf1, qp, qs, ch, deb, intr⟩) :: (a5, pOb ⟨id, sp, cab, rf, rf1, qp, qs, ch, nd, intr⟩) :: (a6, pOb ⟨id, sp, cab, rf, rf1, qp, qs, ch, deb, ni⟩) :: (k, pOb ⟨id, sp, cab, rf, rf1, qp, qs, ch, deb, intr⟩) :: [(W.heap.size, n8Ob n0 n1 n2 n3 n4 n5 n6 n7)]) = F := ⟨_, rfl⟩
    rw [hFF] at H6
    have ix0 : ∀ w : World, (Instr.index 42 (.agg #[.int .i64 id, .int .i64 sp, .bool nc, .int .i64 rf, .int .i64 rf1, .int .i64 qp, .int .i64 qs, .int .i64 ch, .bool deb, .bool intr, .int .i64 id, .int .i64 sp, .bool cab, .int .i64 rf, .int .i64 rf1, .int .i64 qp, .int .i64 qs, .int .i64 ch, .bool nd, .bool intr, .int .i64 id, .int .i64 sp, .bool cab, .int .i64 rf, .int .i64 rf1, .int .i64 qp, .int .i64 qs, .int .i64 ch, .bool deb, .bool ni]) (.int .i64 0)).run Try.prog w = .ok (pv ⟨id, sp, nc, rf, rf1, qp, qs, ch, deb, intr⟩) w := fun _ => by kernel_rfl
    have ix1 : ∀ w : World, (Instr.index 42 (.agg #[.int .i64 id, .int .i64 sp, .bool nc, .int .i64 rf, .int .i64 rf1, .int .i64 qp, .int .i64 qs, .int .i64 ch, .bool deb, .bool intr, .int .i64 id, .int .i64 sp, .bool cab, .int .i64 rf, .int .i64 rf1, .int .i64 qp, .int .i64 qs, .int .i64 ch, .bool nd, .bool intr, .int .i64 id, .int .i64 sp, .bool cab, .int .i64 rf, .int .i64 rf1, .int .i64 qp, .int .i64 qs, .int .i64 ch, .bool deb, .bool ni]) (.int .i64 1)).run Try.prog w = .ok (pv ⟨id, sp, cab, rf, rf1, qp, qs, ch, nd, intr⟩) w := fun _ => by kernel_rfl
    have ix2 : ∀ w : World, (Instr.index 42 (.agg #[.int .i64 id, .int .i64 sp, .bool nc, .int .i64 rf, .int .i64 rf1, .int .i64 qp, .int .i64 qs, .int .i64 ch, .bool deb, .bool intr, .int .i64 id, .int .i64 sp, .bool cab, .int .i64 rf, .int .i64 rf1, .int .i64 qp, .int .i64 qs, .int .i64 ch, .bool nd, .bool intr, .int .i64 id, .int .i64 sp, .bool cab, .int .i64 rf, .int .i64 rf1, .int .i64 qp, .int .i64 qs, .int .i64 ch, .bool deb, .bool ni]) (.int .i64 2)).run Try.prog w = .ok (pv ⟨id, sp, cab, rf, rf1, qp, qs, ch, deb, ni⟩) w := fun _ => by kernel_rfl
    clear hFF
    go_loopw [9, 46] (fun la kk wr => ∃ (n : Nat) (z : Int), la = .int .i64 z ∧ kk = .int .i64 n ∧ n ≤ 3 ∧ (n = 0 → z = -1) ∧ (n = 1 → z = p1) ∧ (n = 2 → z = p2) ∧ Hp W wr [] FF) (fun _ kk _ => 3 - (intOf kk).toNat)
    case atStart => exact ⟨0, -1, rfl, rfl, by omega, fun _ => rfl, fun h => by omega, fun h => by omega, H6.out⟩
    case round =>
      obtain ⟨n, z, rfl, rfl, hn, z0, z1, z2, g⟩ := hrel
      clear H6
      by_cases hn3 : n < 3
      · obtain rfl | rfl | rfl : n = 0 ∨ n = 1 ∨ n = 2 := by omega
        · obtain rfl : z = -1 := z0 rfl
          clear z0 z1 z2 hn hn3
          obtain ⟨P, hP⟩ : ∃ P : Nat, p1 = P := ⟨_, rfl⟩
          obtain ⟨y1, y2, y3, y4⟩ := O1.out
          have hlt : decide ((P : Int) ≤ -1) = false := by rw [decide_eq_false]; omega
          have hlt2 : ¬ ((P : Int) ≤ -1) := by omega
          obtain ⟨T, hT⟩ : ∃ T, T1 = T := ⟨_, rfl⟩
          rw [hP] at y2 y3 y4
          rw [hT] at y1 y3 y4
          have KK := Lib.hid (show pPay ⟨id, sp, nc, rf, rf1, qp, qs, ch, deb, intr⟩ = T ∧ pErr ⟨id, sp, nc, rf, rf1, qp, qs, ch, deb, intr⟩ = 0 by rw [← hT]; exact K1.out)
          have YY := Lib.hid (And.intro y2 (And.intro y3 y4))
          have PP := Lib.hid hP
          clear hP hT y2 y3 y4 lt12 lt23
          have g2 := g.alloc (pOb ⟨id, sp, nc, rf, rf1, qp, qs, ch, deb, intr⟩)
          have ts : (T.size != S.size) = false := by rw [y1]; simp
          have ts2 : ((T.size : Int) != (S.size : Int)) = false := by rw [y1]; simp
          go_upto_region 11 with (fail)
          generalize (wr.alloc (.cells #[.int .i64 id, .int .i64 sp, .bool nc, .int .i64 rf, .int .i64 rf1, .int .i64 qp, .int .i64 qs, .int .i64 ch, .bool deb, .bool intr] 23 (0, 0))) = w7 at g2 ⊢
          generalize wr.heap.size = b7 at *
          obtain ⟨s0, s1, s2, s3, s4, s5, s6, s7, s8, s9⟩ := pOb_cells (x := ⟨id, sp, nc, rf, rf1, qp, qs, ch, deb, intr⟩) (g2.blk (List.mem_cons_self ..))
          clear g
          go_upto_region 14 with (first | (go_at_call 9; (with_reducible refine (penc_as g2 ⟨id, sp, nc, rf, rf1, qp, qs, ch, deb, intr⟩ KK.out).mono ?_); rintro e w8 ⟨rfl, h8⟩; clear g2 s0 s1 s2 s3 s4 s5 s6 s7 s8 s9))
          have H8 := Lib.hid h8.drop
          clear h8
          have sz := SZ.out
          go_wp2_with (fail)
          go_loopw [14, 15, 16] (fun c a i wr => ∃ (j : Nat) (cv av : Int), c = .int .i64 cv ∧ a = .int .i64 av ∧ i = .int .i64 j ∧ j ≤ S.size ∧ (j ≤ P / 8 → cv = 0) ∧ (P / 8 < j → cv = 1 ∧ av = P) ∧ Hp W wr [] FF) (fun _ _ i _ => S.size - (intOf i).toNat)
          case atStart => exact ⟨0, 0, 0, rfl, rfl, rfl, by omega, fun _ => rfl, fun h => by omega, H8.out⟩
          case round =>
            obtain ⟨j, cv, av, rfl, rfl, rfl, hj, i1, i2, g⟩ := hrel
            clear H8
            have G := Lib.hid g
            clear g
            by_cases hjs : j < S.size
            · have hjt : j < T.size := by omega
              obtain ⟨A, hA⟩ : ∃ A : Nat, (S[j]'hjs).toNat = A := ⟨_, rfl⟩
              obtain ⟨B, hB⟩ : ∃ B : Nat, (T[j]'hjt).toNat = B := ⟨_, rfl⟩
              have lA : A < 256 := by rw [← hA]; exact UInt8.toNat_lt _
              have lB : B < 256 := by rw [← hB]; exact UInt8.toNat_lt _
              have hx := u8_xor_nat A B lA lB
              have j0 : (0 : Int) ≤ (j : Int) := by omega
              have j1 : (j : Int) < (S.size : Int) := by omega
              have j2 : (j : Int) < (T.size : Int) := by omega
              by_cases c : j = P / 8
              · have hc0 := i1 (by omega)
                subst hc0
                obtain ⟨m, hm⟩ : ∃ m : Nat, P % 8 = m := ⟨_, rfl⟩
                have m8 : m < 8 := by omega
                have hz := YY.out.2.2 j hjs hjt c
                rw [hA, hB, hm] at hz
                obtain ⟨Z, hZ⟩ : ∃ Z : Nat, 2 ^ (7 - m) = Z := ⟨_, rfl⟩
                rw [hZ] at hz
                rw [hz] at hx
                have lZ : Z < 256 := by rw [← hz]; exact Nat.xor_lt_two_pow (n := 8) lA lB
                have z1 : 0 < Z := by rw [← hZ]; exact Nat.two_pow_pos _
                obtain ⟨oc1, oc2⟩ := one_counts m8
                rw [hZ] at oc1 oc2
                have OC := Lib.hid (And.intro lZ (And.intro oc1 oc2))
                have zn : ((Z : Int) != 0) = true := by simp; omega
                have zn2 : ¬ ((Z : Int) = 0) := by omega
                have w8j : IntKind.i64.wrap (8 * (j : Int)) = 8 * (j : Int) := by rw [IntKind.wrap_i64]; omega
                have w8m : IntKind.i64.wrap (8 * (j : Int) + (m : Int)) = (P : Int) := by rw [IntKind.wrap_i64]; omega
                have CC := Lib.hid c
                clear hz hZ z1 oc1 oc2 lA lB lZ i1 i2 m8 hm c
                go_upto_region 18 with (fail)
                go_quiet (fail)
                have g9 := G.out.drewN nq
                clear G
                generalize (wr.drewN nq) = w9 at g9 ⊢
                go_wp2_with (first | (go_at_call 18; (with_reducible refine (ones_as OC.out.1 OC.out.2.1 _).mono ?_); rintro e w1 ⟨rfl, rfl⟩) | (go_at_call 19; (with_reducible refine (lead_as OC.out.1 OC.out.2.2 _).mono ?_); rintro e w1 ⟨rfl, rfl⟩))
                go_roundw
                case rel => exact ⟨j + 1, 1, P, by go_num, by go_num, by go_num, by omega, fun h => by have := CC.out; omega, fun _ => ⟨rfl, rfl⟩, g9⟩
                case measure => simp [intOf]; omega
              · have hz := YY.out.2.1 j hjs hjt c
                rw [hA, hB] at hz
                subst hz
                rw [Nat.xor_self] at hx
                clear lA lB
                go_upto_region 18 with (fail)
                go_quiet (fail)
                have g9 := G.out.drewN nq
                clear G
                generalize (wr.drewN nq) = w9 at g9 ⊢
                go_wp2_with (fail)
                go_roundw
                case rel => exact ⟨j + 1, cv, av, by go_num, by go_num, by go_num, by omega, fun h => i1 (by omega), fun h => i2 (by omega), g9⟩
                case measure => simp [intOf]; omega
            · have hje : ¬ ((j : Int) < (S.size : Int)) := by omega
              obtain ⟨e1, e2⟩ := i2 (by have := YY.out.1; omega)
              subst e1 e2
              clear i1 i2
              go_wp2_with (fail)
              go_roundw
              case rel => exact ⟨1, P, by go_num, by go_num, by omega, fun h => by omega, fun _ => by rw [PP.out], fun h => by omega, G.out⟩
              case measure => simp [intOf]
        · obtain rfl : z = (p1 : Int) := z1 rfl
          clear z0 z1 z2 hn hn3
          obtain ⟨P, hP⟩ : ∃ P : Nat, p2 = P := ⟨_, rfl⟩
          obtain ⟨y1, y2, y3, y4⟩ := O2.out
          have hlt : decide ((P : Int) ≤ (p1 : Int)) = false := by rw [decide_eq_false]; omega
          have hlt2 : ¬ ((P : Int) ≤ (p1 : Int)) := by omega
          obtain ⟨T, hT⟩ : ∃ T, T2 = T := ⟨_, rfl⟩
          rw [hP] at y2 y3 y4
          rw [hT] at y1 y3 y4
          have KK := Lib.hid (show pPay ⟨id, sp, cab, rf, rf1, qp, qs, ch, nd, intr⟩ = T ∧ pErr ⟨id, sp, cab, rf, rf1, qp, qs, ch, nd, intr⟩ = 0 by rw [← hT]; exact K2.out)
          have YY := Lib.hid (And.intro y2 (And.intro y3 y4))
          have PP := Lib.hid hP
          clear hP hT y2 y3 y4 lt12 lt23
          have g2 := g.alloc (pOb ⟨id, sp, cab, rf, rf1, qp, qs, ch, nd, intr⟩)
          have ts : (T.size != S.size) = false := by rw [y1]; simp
          have ts2 : ((T.size : Int) != (S.size : Int)) = false := by rw [y1]; simp
          go_upto_region 11 with (fail)
          generalize (wr.alloc (.cells #[.int .i64 id, .int .i64 sp, .bool cab, .int .i64 rf, .int .i64 rf1, .int .i64 qp, .int .i64 qs, .int .i64 ch, .bool nd, .bool intr] 23 (0, 0))) = w7 at g2 ⊢
          generalize wr.heap.size = b7 at *
          obtain ⟨s0, s1, s2, s3, s4, s5, s6, s7, s8, s9⟩ := pOb_cells (x := ⟨id, sp, cab, rf, rf1, qp, qs, ch, nd, intr⟩) (g2.blk (List.mem_cons_self ..))
          clear g
          go_upto_region 14 with (first | (go_at_call 9; (with_reducible refine (penc_as g2 ⟨id, sp, cab, rf, rf1, qp, qs, ch, nd, intr⟩ KK.out).mono ?_); rintro e w8 ⟨rfl, h8⟩; clear g2 s0 s1 s2 s3 s4 s5 s6 s7 s8 s9))
          have H8 := Lib.hid h8.drop
          clear h8
          have sz := SZ.out
          go_wp2_with (fail)
          go_loopw [14, 15, 16] (fun c a i wr => ∃ (j : Nat) (cv av : Int), c = .int .i64 cv ∧ a = .int .i64 av ∧ i = .int .i64 j ∧ j ≤ S.size ∧ (j ≤ P / 8 → cv = 0) ∧ (P / 8 < j → cv = 1 ∧ av = P) ∧ Hp W wr [] FF) (fun _ _ i _ => S.size - (intOf i).toNat)
          case atStart => exact ⟨0, 0, 0, rfl, rfl, rfl, by omega, fun _ => rfl, fun h => by omega, H8.out⟩
          case round =>
            obtain ⟨j, cv, av, rfl, rfl, rfl, hj, i1, i2, g⟩ := hrel
            clear H8
            have G := Lib.hid g
            clear g
            by_cases hjs : j < S.size
            · have hjt : j < T.size := by omega
              obtain ⟨A, hA⟩ : ∃ A : Nat, (S[j]'hjs).toNat = A := ⟨_, rfl⟩
              obtain ⟨B, hB⟩ : ∃ B : Nat, (T[j]'hjt).toNat = B := ⟨_, rfl⟩
              have lA : A < 256 := by rw [← hA]; exact UInt8.toNat_lt _
              have lB : B < 256 := by rw [← hB]; exact UInt8.toNat_lt _
              have hx := u8_xor_nat A B lA lB
              have j0 : (0 : Int) ≤ (j : Int) := by omega
              have j1 : (j : Int) < (S.size : Int) := by omega
              have j2 : (j : Int) < (T.size : Int) := by omega
              by_cases c : j = P / 8
              · have hc0 := i1 (by omega)
                subst hc0
                obtain ⟨m, hm⟩ : ∃ m : Nat, P % 8 = m := ⟨_, rfl⟩
                have m8 : m < 8 := by omega
                have hz := YY.out.2.2 j hjs hjt c
                rw [hA, hB, hm] at hz
                obtain ⟨Z, hZ⟩ : ∃ Z : Nat, 2 ^ (7 - m) = Z := ⟨_, rfl⟩
                rw [hZ] at hz
                rw [hz] at hx
                have lZ : Z < 256 := by rw [← hz]; exact Nat.xor_lt_two_pow (n := 8) lA lB
                have z1 : 0 < Z := by rw [← hZ]; exact Nat.two_pow_pos _
                obtain ⟨oc1, oc2⟩ := one_counts m8
                rw [hZ] at oc1 oc2
                have OC := Lib.hid (And.intro lZ (And.intro oc1 oc2))
                have zn : ((Z : Int) != 0) = true := by simp; omega
                have zn2 : ¬ ((Z : Int) = 0) := by omega
                have w8j : IntKind.i64.wrap (8 * (j : Int)) = 8 * (j : Int) := by rw [IntKind.wrap_i64]; omega
                have w8m : IntKind.i64.wrap (8 * (j : Int) + (m : Int)) = (P : Int) := by rw [IntKind.wrap_i64]; omega
                have CC := Lib.hid c
                clear hz hZ z1 oc1 oc2 lA lB lZ i1 i2 m8 hm c
                go_upto_region 18 with (fail)
                go_quiet (fail)
                have g9 := G.out.drewN nq
                clear G
                generalize (wr.drewN nq) = w9 at g9 ⊢
                go_wp2_with (first | (go_at_call 18; (with_reducible refine (ones_as OC.out.1 OC.out.2.1 _).mono ?_); rintro e w1 ⟨rfl, rfl⟩) | (go_at_call 19; (with_reducible refine (lead_as OC.out.1 OC.out.2.2 _).mono ?_); rintro e w1 ⟨rfl, rfl⟩))
                go_roundw
                case rel => exact ⟨j + 1, 1, P, by go_num, by go_num, by go_num, by omega, fun h => by have := CC.out; omega, fun _ => ⟨rfl, rfl⟩, g9⟩
                case measure => simp [intOf]; omega
              · have hz := YY.out.2.1 j hjs hjt c
                rw [hA, hB] at hz
                subst hz
                rw [Nat.xor_self] at hx
                clear lA lB
                go_upto_region 18 with (fail)
                go_quiet (fail)
                have g9 := G.out.drewN nq
                clear G
                generalize (wr.drewN nq) = w9 at g9 ⊢
                go_wp2_with (fail)
                go_roundw
                case rel => exact ⟨j + 1, cv, av, by go_num, by go_num, by go_num, by omega, fun h => i1 (by omega), fun h => i2 (by omega), g9⟩
                case measure => simp [intOf]; omega
            · have hje : ¬ ((j : Int) < (S.size : Int)) := by omega
              obtain ⟨e1, e2⟩ := i2 (by have := YY.out.1; omega)
              subst e1 e2
              clear i1 i2
              go_wp2_with (fail)
              go_roundw
              case rel => exact ⟨2, P, by go_num, by go_num, by omega, fun h => by omega, fun h => by omega, fun _ => by rw [PP.out], G.out⟩
              case measure => simp [intOf]
        · obtain rfl : z = (p2 : Int) := z2 rfl
          clear z0 z1 z2 hn hn3
          obtain ⟨P, hP⟩ : ∃ P : Nat, p3 = P := ⟨_, rfl⟩
          obtain ⟨y1, y2, y3, y4⟩ := O3.out
          have hlt : decide ((P : Int) ≤ (p2 : Int)) = false := by rw [decide_eq_false]; omega
          have hlt2 : ¬ ((P : Int) ≤ (p2 : Int)) := by omega
          obtain ⟨T, hT⟩ : ∃ T, T3 = T := ⟨_, rfl⟩
          rw [hP] at y2 y3 y4
          rw [hT] at y1 y3 y4
          have KK := Lib.hid (show pPay ⟨id, sp, cab, rf, rf1, qp, qs, ch, deb, ni⟩ = T ∧ pErr ⟨id, sp, cab, rf, rf1, qp, qs, ch, deb, ni⟩ = 0 by rw [← hT]; exact K3.out)
          have YY := Lib.hid (And.intro y2 (And.intro y3 y4))
          have PP := Lib.hid hP
          clear hP hT y2 y3 y4 lt12 lt23
          have g2 := g.alloc (pOb ⟨id, sp, cab, rf, rf1, qp, qs, ch, deb, ni⟩)
          have ts : (T.size != S.size) = false := by rw [y1]; simp
          have ts2 : ((T.size : Int) != (S.size : Int)) = false := by rw [y1]; simp
          go_upto_region 11 with (fail)
          generalize (wr.alloc (.cells #[.int .i64 id, .int .i64 sp, .bool cab, .int .i64 rf, .int .i64 rf1, .int .i64 qp, .int .i64 qs, .int .i64 ch, .bool deb, .bool ni] 23 (0, 0))) = w7 at g2 ⊢
          generalize wr.heap.size = b7 at *
          obtain ⟨s0, s1, s2, s3, s4, s5, s6, s7, s8, s9⟩ := pOb_cells (x := ⟨id, sp, cab, rf, rf1, qp, qs, ch, deb, ni⟩) (g2.blk (List.mem_cons_self ..))
          clear g
          go_upto_region 14 with (first | (go_at_call 9; (with_reducible refine (penc_as g2 ⟨id, sp, cab, rf, rf1, qp, qs, ch, deb, ni⟩ KK.out).mono ?_); rintro e w8 ⟨rfl, h8⟩; clear g2 s0 s1 s2 s3 s4 s5 s6 s7 s8 s9))
          have H8 := Lib.hid h8.drop
          clear h8
          have sz := SZ.out
          go_wp2_with (fail)
          go_loopw [14, 15, 16] (fun c a i wr => ∃ (j : Nat) (cv av : Int), c = .int .i64 cv ∧ a = .int .i64 av ∧ i = .int .i64 j ∧ j ≤ S.size ∧ (j ≤ P / 8 → cv = 0) ∧ (P / 8 < j → cv = 1 ∧ av = P) ∧ Hp W wr [] FF) (fun _ _ i _ => S.size - (intOf i).toNat)
          case atStart => exact ⟨0, 0, 0, rfl, rfl, rfl, by omega, fun _ => rfl, fun h => by omega, H8.out⟩
          case round =>
            obtain ⟨j, cv, av, rfl, rfl, rfl, hj, i1, i2, g⟩ := hrel
            clear H8
            have G := Lib.hid g
            clear g
            by_cases hjs : j < S.size
            · have hjt : j < T.size := by omega
              obtain ⟨A, hA⟩ : ∃ A : Nat, (S[j]'hjs).toNat = A := ⟨_, rfl⟩
              obtain ⟨B, hB⟩ : ∃ B : Nat, (T[j]'hjt).toNat = B := ⟨_, rfl⟩
              have lA : A < 256 := by rw [← hA]; exact UInt8.toNat_lt _
              have lB : B < 256 := by rw [← hB]; exact UInt8.toNat_lt _
              have hx := u8_xor_nat A B lA lB
              have j0 : (0 : Int) ≤ (j : Int) := by omega
              have j1 : (j : Int) < (S.size : Int) := by omega
              have j2 : (j : Int) < (T.size : Int) := by omega
              by_cases c : j = P / 8
              · have hc0 := i1 (by omega)
                subst hc0
                obtain ⟨m, hm⟩ : ∃ m : Nat, P % 8 = m := ⟨_, rfl⟩
                have m8 : m < 8 := by omega
                have hz := YY.out.2.2 j hjs hjt c
                rw [hA, hB, hm] at hz
                obtain ⟨Z, hZ⟩ : ∃ Z : Nat, 2 ^ (7 - m) = Z := ⟨_, rfl⟩
                rw [hZ] at hz
                rw [hz] at hx
                have lZ : Z < 256 := by rw [← hz]; exact Nat.xor_lt_two_pow (n := 8) lA lB
                have z1 : 0 < Z := by rw [← hZ]; exact Nat.two_pow_pos _
                obtain ⟨oc1, oc2⟩ := one_counts m8
                rw [hZ] at oc1 oc2
                have OC := Lib.hid (And.intro lZ (And.intro oc1 oc2))
                have zn : ((Z : Int) != 0) = true := by simp; omega
                have zn2 : ¬ ((Z : Int) = 0) := by omega
                have w8j : IntKind.i64.wrap (8 * (j : Int)) = 8 * (j : Int) := by rw [IntKind.wrap_i64]; omega
                have w8m : IntKind.i64.wrap (8 * (j : Int) + (m : Int)) = (P : Int) := by rw [IntKind.wrap_i64]; omega
                have CC := Lib.hid c
                clear hz hZ z1 oc1 oc2 lA lB lZ i1 i2 m8 hm c
                go_upto_region 18 with (fail)
                go_quiet (fail)
                have g9 := G.out.drewN nq
                clear G
                generalize (wr.drewN nq) = w9 at g9 ⊢
                go_wp2_with (first | (go_at_call 18; (with_reducible refine (ones_as OC.out.1 OC.out.2.1 _).mono ?_); rintro e w1 ⟨rfl, rfl⟩) | (go_at_call 19; (with_reducible refine (lead_as OC.out.1 OC.out.2.2 _).mono ?_); rintro e w1 ⟨rfl, rfl⟩))
                go_roundw
                case rel => exact ⟨j + 1, 1, P, by go_num, by go_num, by go_num, by omega, fun h => by have := CC.out; omega, fun _ => ⟨rfl, rfl⟩, g9⟩
                case measure => simp [intOf]; omega
              · have hz := YY.out.2.1 j hjs hjt c
                rw [hA, hB] at hz
                subst hz
                rw [Nat.xor_self] at hx
                clear lA lB
                go_upto_region 18 with (fail)
                go_quiet (fail)
                have g9 := G.out.drewN nq
                clear G
                generalize (wr.drewN nq) = w9 at g9 ⊢
                go_wp2_with (fail)
                go_roundw
                case rel => exact ⟨j + 1, cv, av, by go_num, by go_num, by go_num, by omega, fun h => i1 (by omega), fun h => i2 (by omega), g9⟩
                case measure => simp [intOf]; omega
            · have hje : ¬ ((j : Int) < (S.size : Int)) := by omega
              obtain ⟨e1, e2⟩ := i2 (by have := YY.out.1; omega)
              subst e1 e2
              clear i1 i2
              go_wp2_with (fail)
              go_roundw
              case rel => exact ⟨3, P, by go_num, by go_num, by omega, fun h => by omega, fun h => by omega, fun h => by omega, G.out⟩
              case measure => simp [intOf]
      · have hne : ¬ ((n : Int) < 3) := by omega
        have G := Lib.hid g
        clear g z0 z1 z2
        go_wp2_with (first | (go_at_call 13; (with_reducible refine (awake_any7 G.out).mono ?_); rintro e w4 ⟨rfl, h4⟩))
        exact bodyPost_ret (results_tmp rfl _ _ _) rfl ⟨rfl, h4.below⟩
end Go.Proofs.Ytkaoeilijdeioaa
