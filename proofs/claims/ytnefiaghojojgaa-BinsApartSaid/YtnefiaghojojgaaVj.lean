/- The walk of BinsApart. -/
import Derived.Test.YtnefiaghojojgaaVd
namespace Go.Proofs.Ytnefiaghojojgaa
open Go.RowKit Go.Shelf
set_option linter.unusedVariables false
set_option maxRecDepth 100000
set_option linter.unusedSimpArgs false

theorem sgB_len (v : Int) : (sgB v).length ≤ 1 := by
  unfold sgB
  split
  · simp
  · split <;> simp
theorem putB_len (what V N : Int) : (putB what V N).length ≤ 2000 := by
  unfold putB
  split
  · unfold unB; split
    · rw [cntB_length]; split <;> omega
    · simp
  split
  · unfold cutB; split
    · have h1 : N % 15 + 1 ≤ 15 := by omega
      have h2 := Int.emod_lt_of_pos V (show 0 < N % 15 + 1 by omega)
      rw [cntB_length]; split <;> omega
    · simp
  split
  · exact Nat.le_trans (escB_len _ _ (by omega) (by omega)).2 (by omega)
  split
  · rw [mv_eq (by omega) (by omega) (by omega), List.length_append]
    have := mvN_len (N := (V % 16385 - 8192).natAbs) (by omega) (N % 50) false
    have hs := sgB_len (V % 16385 - 8192)
    omega
  split
  · rw [mv_eq (by omega) (by omega) (by omega), List.length_append]
    have := mvN_len (N := (V % 16385 - 8192).natAbs) (by omega) (N % 50) true
    have hs := sgB_len (V % 16385 - 8192)
    omega
  · unfold qpB; split
    · have hq : (qpN (V % 52 - 26) : Int) ≤ 60 := by unfold qpN; split <;> omega
      generalize qpN (V % 52 - 26) = q at hq
      unfold unB; split
      · rw [cntB_length]; split <;> omega
      · simp
    · simp
section
variable {W w : World} {L : List AObj} {F : List (Nat × Obj)}
theorem bput_is (h : Hp W w L F) (what V N : Int) (w0 : 0 ≤ what) (w1 : what ≤ 255) (v1 : -9223372036854775808 ≤ V) (v2 : V < 9223372036854775808) (n1 : -9223372036854775808 ≤ N) (n2 : N < 9223372036854775808) {B : List (Int × Int)} {m : Nat} (hB : putB what V N = B) (hm : B.length = m) :
    Calls Try.prog 15 #[.agg #[.int .u8 what, .int .i64 V, .int .i64 N]] w fun e w' => ∃ sp cap, e = .returned (.tuple #[.slice sp m cap, .int .i64 0]) ∧ Hp W w' (aSl 27 2 (.slice sp m cap) B.length (bcs B) :: L) F := by
  subst hB
  refine (bput_any h what V N w0 w1 v1 v2 n1 n2).mono ?_
  rintro e w' ⟨y, rfl, h'⟩
  obtain ⟨sp, cap, rfl, _, _⟩ := h'.sl_form 0 at0
  rw [← hm]
  exact ⟨sp, cap, rfl, h'⟩

set_option maxHeartbeats 8000000 in
theorem apart_walk (what V N v : Int) (wl : 0 ≤ what) (wh : what ≤ 255) (v1 : -9223372036854775808 ≤ V) (v2 : V < 9223372036854775808) (n1 : -9223372036854775808 ≤ N) (n2 : N < 9223372036854775808) (u1 : -9223372036854775808 ≤ v) (u2 : v < 9223372036854775808) :
    Calls Try.prog 6 #[.agg #[.int .u8 what, .int .i64 V, .int .i64 N], .int .i64 v] W fun e w' => e = .returned (.bool true) ∧ Below W.heap.size W w' := by
  have hS := (((Hp.start W).alloc (.cells #[.int .u8 what, .int .i64 V, .int .i64 N] 43)).alloc (.cells #[.int .u8 what, .int .i64 v, .int .i64 N] 43))
  rw [World.size_alloc] at hS
  obtain ⟨A, hA⟩ : ∃ A, putB what V N = A := ⟨_, rfl⟩
  obtain ⟨B, hB⟩ : ∃ B, putB what v N = B := ⟨_, rfl⟩
  obtain ⟨n, hn⟩ : ∃ n, A.length = n := ⟨_, rfl⟩
  obtain ⟨m, hm⟩ : ∃ m, B.length = m := ⟨_, rfl⟩
  have hAl : n ≤ 2000 := by rw [← hn, ← hA]; exact putB_len _ _ _
  have hBl : m ≤ 2000 := by rw [← hm, ← hB]; exact putB_len _ _ _
  have hlaw : (V % manyN what N = v % manyN what N ∧ A = B) ∨ Ap A B := by
    by_cases h : V % manyN what N = v % manyN what N
    · exact .inl ⟨h, by rw [← hA, ← hB]; exact put_same _ _ _ _ h⟩
    · exact .inr (by rw [← hA, ← hB]; exact put_apart _ _ _ _ h)
  have HA := Lib.hid (And.intro hA hn)
  have HB := Lib.hid (And.intro hB hm)
  have HL := Lib.hid hlaw
  clear hA hB hn hm hlaw
  go_enter Try.func6, Try.ntmps6
  go_wp2_with (first | (go_at_call 15; (with_reducible refine (bput_is hS what V N wl wh v1 v2 n1 n2 HA.out.1 HA.out.2).mono ?_); rintro e w1 ⟨sa, ca, rfl, h1⟩; clear hS; obtain ⟨k0, k1, k2⟩ := cells_el (h1.blk (.head _))) | (go_at_call 15; (with_reducible refine (bput_is h1 what v N wl wh u1 u2 n1 n2 HB.out.1 HB.out.2).mono ?_); rintro e w2 ⟨sb, cb, rfl, h2⟩; clear h1 k0 k1 k2))
  have HS := Lib.hid h2
  clear h2
  rcases HL.out with ⟨hsm, hAB⟩ | hap
  · have hnm : n = m := by rw [← HA.out.2, ← HB.out.2, hAB]
    have HAB := Lib.hid hAB
    have HNM := Lib.hid hnm
    have HSM : Hid ((V % manyN what N == v % manyN what N) = true) := Lib.hid (by simpa using hsm)
    clear hAB hnm hsm
    go_loopw [10] (fun i wr => ∃ k : Nat, k ≤ n ∧ i = .int .i64 k ∧ Hp W wr [aSl 27 2 (.slice sb m cb) B.length (bcs B), aSl 27 2 (.slice sa n ca) A.length (bcs A)] [(W.heap.size + 1, .cells #[.int .u8 what, .int .i64 v, .int .i64 N] 43 (0, 0)), (W.heap.size, .cells #[.int .u8 what, .int .i64 V, .int .i64 N] 43 (0, 0))]) (fun i _ => n - (intOf i).toNat)
    case atStart => exact ⟨0, Nat.zero_le _, rfl, HS.out⟩
    case round =>
      obtain ⟨k, hk, rfl, h3⟩ := hrel
      by_cases hkn : k < n
      · have hkm : k < m := by have := HNM.out; omega
        obtain ⟨ga, pa⟩ := h3.bnIn 1 at1 (by have := HA.out.2; omega)
        obtain ⟨gb, pb⟩ := h3.bnIn 0 at0 (by have := HB.out.2; omega)
        obtain rfl := pa.at_ (by omega)
        obtain rfl := pb.at_ (by omega)
        obtain ⟨c1, c2⟩ := pa.get hkn
        obtain ⟨d1, d2⟩ := pb.get hkm
        rw [← HAB.out] at d1 d2
        simp only [Nat.zero_add] at c1 c2 d1 d2
        generalize (A.getD k (0, 0)).1 = x at c1 d1
        generalize (A.getD k (0, 0)).2 = y at c2 d2
        have hq := fun w => bin_eq x y x y w
        rw [decide_eq_true rfl] at hq
        have z1 : (k : Int) < (n : Int) := by omega
        have z2 : (k : Int) < (m : Int) := by omega
        have H3 := Lib.hid h3
        clear h3 pa pb
        go_wp2_with (fail)
        go_quiet (fail)
        go_wp2_with (fail)
        go_roundw
        case rel => exact ⟨k + 1, by omega, by go_num, H3.out.drewN nq⟩
        case measure => simp [intOf]; omega
      · obtain rfl : k = n := by omega
        obtain ⟨ga, pa⟩ := h3.bnIn 1 at1 (by have := HA.out.2; omega)
        obtain ⟨gb, pb⟩ := h3.bnIn 0 at0 (by have := HB.out.2; omega)
        have PQ := Lib.hid (And.intro pa pb)
        have z3 : ((k : Int) == (m : Int)) = true := by have := HNM.out; simp; omega
        clear pa pb
        go_wp2_with (first | (go_at_call 8; (with_reducible refine (equal_is h3 PQ.out.1 PQ.out.2 (decide_eq_true HAB.out)).mono ?_); rintro e w3 ⟨rfl, h4, -⟩; clear h3; obtain ⟨k0, k1, k2⟩ := cells_el (b := W.heap.size) (h4.blk (.tail _ (.head _)))) | (go_at_call 16; (with_reducible refine (same_any h4 what V N v wl v1 v2 n1 n2 u1 u2 true HSM.out).mono ?_); rintro e w4 ⟨rfl, h5⟩; clear h4 k0 k1 k2) | (go_at_call 9; (with_reducible refine (alive_any h5).mono ?_); rintro e w5 ⟨rfl, h6⟩))
        exact bodyPost_ret (results_tmp rfl _ _ _) rfl ⟨rfl, h6.below⟩
  · obtain ⟨q, q1, q2, q3, q4, q5⟩ := hap
    rw [HA.out.2] at q1
    rw [HB.out.2] at q2
    have HQ := Lib.hid (And.intro q3 (And.intro q4 q5))
    clear q3 q4 q5
    go_loopw [10] (fun i wr => ∃ k : Nat, k ≤ q ∧ i = .int .i64 k ∧ Hp W wr [aSl 27 2 (.slice sb m cb) B.length (bcs B), aSl 27 2 (.slice sa n ca) A.length (bcs A)] [(W.heap.size + 1, .cells #[.int .u8 what, .int .i64 v, .int .i64 N] 43 (0, 0)), (W.heap.size, .cells #[.int .u8 what, .int .i64 V, .int .i64 N] 43 (0, 0))]) (fun i _ => q - (intOf i).toNat)
    case atStart => exact ⟨0, Nat.zero_le _, rfl, HS.out⟩
    case round =>
      obtain ⟨k, hk, rfl, h3⟩ := hrel
      have hkn : k < n := by omega
      have hkm : k < m := by omega
      obtain ⟨ga, pa⟩ := h3.bnIn 1 at1 (by have := HA.out.2; omega)
      obtain ⟨gb, pb⟩ := h3.bnIn 0 at0 (by have := HB.out.2; omega)
      obtain rfl := pa.at_ (by omega)
      obtain rfl := pb.at_ (by omega)
      obtain ⟨c1, c2⟩ := pa.get hkn
      obtain ⟨d1, d2⟩ := pb.get hkm
      simp only [Nat.zero_add] at c1 c2 d1 d2
      have z1 : (k : Int) < (n : Int) := by omega
      have z2 : (k : Int) < (m : Int) := by omega
      have H3 := Lib.hid h3
      clear pa pb h3
      by_cases hkq : k < q
      · rw [← HQ.out.1 k hkq] at d1 d2
        generalize (A.getD k (0, 0)).1 = x at c1 d1
        generalize (A.getD k (0, 0)).2 = y at c2 d2
        have hq := fun w => bin_eq x y x y w
        rw [decide_eq_true rfl] at hq
        go_wp2_with (fail)
        go_quiet (fail)
        go_wp2_with (fail)
        go_roundw
        case rel => exact ⟨k + 1, by omega, by go_num, H3.out.drewN nq⟩
        case measure => simp [intOf]; omega
      · obtain rfl : k = q := by omega
        rw [← HQ.out.2.1] at d1
        have hne := HQ.out.2.2
        have HC := Lib.hid (And.intro c1 d1)
        obtain ⟨x, hx⟩ : ∃ x, x = (A.getD k (0, 0)).1 := ⟨_, rfl⟩
        rw [← hx] at c1 d1
        have HX := Lib.hid hx
        generalize (A.getD k (0, 0)).2 = y at c2 hne
        generalize (B.getD k (0, 0)).2 = z at d2 hne
        have hq := fun w => bin_eq x y x z w
        rw [decide_eq_false (by simpa using hne)] at hq
        clear hx
        have ka : ∀ X : HpV W [aBs gb m cb B, aBs ga n ca A] [(W.heap.size + 1, .cells #[.int .u8 what, .int .i64 v, .int .i64 N] 43 (0, 0)), (W.heap.size, .cells #[.int .u8 what, .int .i64 V, .int .i64 N] 43 (0, 0))], X.w.cell? ⟨ga, k * 2, none⟩ = some (.int .i64 x) := fun X => by
          have := ((X.h.bnAt 1 at1 (by have := HA.out.2; omega)).1.get hkn).1
          rw [Nat.zero_add] at this
          rw [this, HX.out]
        have kb : ∀ X : HpV W [aBs gb m cb B, aBs ga n ca A] [(W.heap.size + 1, .cells #[.int .u8 what, .int .i64 v, .int .i64 N] 43 (0, 0)), (W.heap.size, .cells #[.int .u8 what, .int .i64 V, .int .i64 N] 43 (0, 0))], X.w.cell? ⟨gb, k * 2, none⟩ = some (.int .i64 x) := fun X => by
          have := ((X.h.bnAt 0 at0 (by have := HB.out.2; omega)).1.get hkm).1
          rw [Nat.zero_add, ← HQ.out.2.1] at this
          rw [this, HX.out]
        have KA := Lib.hid ka
        have KB := Lib.hid kb
        clear ka kb hne
        go_wp2_with (fail)
        go_quiet (fail)
        go_wp2_with (fail)
        have ka := KA.out
        have kb := KB.out
        haveI : Nonempty (HpV W [aBs gb m cb B, aBs ga n ca A] [(W.heap.size + 1, .cells #[.int .u8 what, .int .i64 v, .int .i64 N] 43 (0, 0)), (W.heap.size, .cells #[.int .u8 what, .int .i64 V, .int .i64 N] 43 (0, 0))]) := ⟨⟨_, H3.out⟩⟩
        have hxx : (x == x) = true := by simp
        refine wp_region_hv (H3.out.drewN nq) (by kernel_rfl) (by kernel_rfl) ?_
        repeat (go_big_quiet_step ((go_at_call 9; exact HpV.call (alive_any (HpV.h _)))))
        refine wpQuiet_nil ?_
        rintro _ ⟨⟨wq, hwq⟩, rfl⟩
        go_wp2_with (fail)
        exact bodyPost_ret (results_tmp rfl _ _ _) rfl ⟨rfl, hwq.below⟩
end

end Go.Proofs.Ytnefiaghojojgaa
