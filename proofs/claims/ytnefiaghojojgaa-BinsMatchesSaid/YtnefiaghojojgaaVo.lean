/- The reference's column, Mvd. -/
import Derived.Test.YtnefiaghojojgaaVn
namespace Go.Proofs.Ytnefiaghojojgaa
open Go.RowKit Go.Shelf
set_option linter.unusedVariables false
set_option maxRecDepth 100000
set_option linter.unusedSimpArgs false

theorem mvC_zero (sum : Int) (vert : Bool) : rowAt (mvC sum vert) 0 = mvB0 vert + mvS sum := rfl
theorem mvC_pos (sum : Int) (vert : Bool) (i m : Nat) (hi : 0 < i) (hm : min 6 (2 + (i : Int)) = (m : Int)) : rowAt (mvC sum vert) i = mvB0 vert + m := by
  unfold rowAt
  have : i = 1 ∨ i = 2 ∨ i = 3 ∨ 4 ≤ i := by omega
  rcases this with rfl | rfl | rfl | h
  · obtain rfl : m = 3 := by omega
    rfl
  · obtain rfl : m = 4 := by omega
    rfl
  · obtain rfl : m = 5 := by omega
    rfl
  · obtain rfl : m = 6 := by omega
    rw [show min i ((mvC sum vert).length - 1) = 4 by rw [mvC_len]; omega]
    rfl
theorem column_any (i : Nat) (hi : i ≤ 100) (sum : Int) (vert : Bool) (w : World) :
    Calls Try.prog 41 #[.int .i64 i, .int .i64 sum, .bool vert] w fun e w' => e = .returned (.int .i64 (rowAt (mvC sum vert) i)) ∧ w = w' := by
  obtain ⟨x, hx⟩ : ∃ x, x = rowAt (mvC sum vert) i := ⟨_, rfl⟩
  rw [← hx]
  by_cases h0 : 0 < i
  · obtain ⟨m, hm⟩ : ∃ m : Nat, min 6 (2 + (i : Int)) = (m : Int) := ⟨(min 6 (2 + (i : Int))).toNat, by omega⟩
    have HX : Hid (x = mvB0 vert + m) := Lib.hid (by rw [hx, mvC_pos sum vert i m h0 hm])
    have hm6 : m ≤ 6 := by omega
    clear hx
    cases vert with
    | true =>
      go_enter Try.func41, Try.ntmps41
      go_wp2
      go_ret
      exact ⟨by rw [HX.out]; rfl, rfl⟩
    | false =>
      go_enter Try.func41, Try.ntmps41
      go_wp2
      go_ret
      exact ⟨by rw [HX.out]; rfl, rfl⟩
  · obtain rfl : i = 0 := by omega
    rw [mvC_zero] at hx
    have e0 : ((0 : Nat) : Int) = 0 := rfl
    rw [e0]
    clear e0 h0 hi
    by_cases h1 : sum < 3
    · have HX : Hid (x = mvB0 vert) := Lib.hid (by rw [hx]; unfold mvS; rw [if_neg (by omega), if_neg (by omega)]; omega)
      clear hx
      cases vert with
      | true =>
        go_enter Try.func41, Try.ntmps41
        go_wp2
        go_ret
        exact ⟨by rw [HX.out]; rfl, rfl⟩
      | false =>
        go_enter Try.func41, Try.ntmps41
        go_wp2
        go_ret
        exact ⟨by rw [HX.out]; rfl, rfl⟩
    · by_cases h2 : sum ≤ 32
      · have HX : Hid (x = mvB0 vert + 1) := Lib.hid (by rw [hx]; unfold mvS; rw [if_neg (by omega), if_pos (by omega)])
        clear hx
        cases vert with
        | true =>
          go_enter Try.func41, Try.ntmps41
          go_wp2
          go_ret
          exact ⟨by rw [HX.out]; rfl, rfl⟩
        | false =>
          go_enter Try.func41, Try.ntmps41
          go_wp2
          go_ret
          exact ⟨by rw [HX.out]; rfl, rfl⟩
      · have HX : Hid (x = mvB0 vert + 2) := Lib.hid (by rw [hx]; unfold mvS; rw [if_pos (by omega)])
        clear hx
        cases vert with
        | true =>
          go_enter Try.func41, Try.ntmps41
          go_wp2
          go_ret
          exact ⟨by rw [HX.out]; rfl, rfl⟩
        | false =>
          go_enter Try.func41, Try.ntmps41
          go_wp2
          go_ret
          exact ⟨by rw [HX.out]; rfl, rfl⟩

section
variable {W w : World} {L : List AObj} {F : List (Nat × Obj)}
set_option maxHeartbeats 8000000 in
theorem qmvd_ps (h : Hp W w L F) (v : Int) (N : Nat) (hv : 0 < v) (hN : max v (-v) = (N : Int)) (hN2 : N ≤ 8192) (h9 : N < 9) (sum : Int) (vert : Bool) (hs : 0 ≤ sum) :
    Calls Try.prog 30 #[.int .i64 v, .int .i64 sum, .bool vert] w fun e w' => ∃ v', e = .returned (.tuple #[v', .int .i64 0]) ∧ Hp W w' (aBn v' (mvN N sum vert ++ sgB v) :: L) F := by
  have H := Lib.hid h
  clear h
  obtain ⟨i0, hi, hz0, hz1, hz2⟩ := bin_info
  obtain ⟨C, hC⟩ : ∃ C, C = mvC sum vert := ⟨_, rfl⟩
  obtain ⟨M, hM2⟩ : ∃ M : Nat, M = min N 9 := ⟨_, rfl⟩
  have hM : min (N : Int) 9 = (M : Int) := by omega
  have hM9 : M ≤ 9 := by omega
  have hMN : M ≤ N ∧ N ≤ M := by omega
  obtain ⟨hMN1, hMN2⟩ := hMN
  have e1 : mvN N sum vert = cntP C M ++ [(rowAt C M, 0)] := by unfold mvN; rw [← hM2, ← hC, cntB_eq, decide_eq_true (show ((M : Nat) : Int) ≠ 9 by omega), if_neg (show ¬ 9 ≤ N by omega)]; simp
  have e2 : sgB v = [(-1, 0)] := by unfold sgB; rw [if_neg (by omega), if_pos hv]
  have v1 : -8192 ≤ v := by omega
  have v2 : v ≤ 8192 := by omega
  rw [e1, e2]
  have hcol : ∀ (i : Nat) (w : World), i ≤ 100 → Calls Try.prog 41 #[.int .i64 i, .int .i64 sum, .bool vert] w fun e w' => e = .returned (.int .i64 (rowAt C i)) ∧ w = w' := fun i w h => by rw [hC]; exact column_any i h sum vert w
  have HC := Lib.hid hcol
  clear e1 e2 hC hM2 hcol
  have H0 := Lib.hid (H.out.sl_nil 27 2)
  go_enter Try.func30, Try.ntmps30
  go_wp2_with (fail)
  go_loopw [9, 10] (fun o i wr => ∃ (k : Nat) (sp : Option Addr) (cap : Nat), k ≤ M ∧ i = .int .i64 k ∧ o = .slice sp k cap ∧ Hp W wr (aSl 27 2 (.slice sp k cap) k (bcs (cntP C k)) :: L) F) (fun _ i _ => M - (intOf i).toNat)
  case atStart => exact ⟨0, none, 0, Nat.zero_le _, rfl, rfl, H0.out⟩
  case round =>
    obtain ⟨k, sp, cap, hk, rfl, rfl, h3⟩ := hrel
    have H3 := Lib.hid h3
    clear h3
    by_cases hkV : k < M
    · have hat := fun w => HC.out k w (by omega)
      have hsucc := cntP_succ C k
      obtain ⟨x, hx⟩ : ∃ x, x = rowAt C k := ⟨_, rfl⟩
      rw [← hx] at hat hsucc
      have HSU := Lib.hid hsucc
      clear hsucc hx
      go_wp2_with (first | (go_at_call 41; (with_reducible refine (hat _).mono ?_); rintro e w1 ⟨rfl, rfl⟩) | (at_builtin; refine wpList_append_hp rfl _ _ 22 rfl 27 i0 (bvl (0, 0)) 2 16 Try.underlying22 hi hz0 hz1 hz2 rfl (by decide) (H3.out.lost _) 0 at0 rfl ⟨wr.heap.size, 0, none⟩ 1 1 (bcs [(x, 1)]) rfl ?c0 ?c1 ?c2 ?c3 ?c4 ?_))
      case c0 => rfl
      case c1 => exact bin_new _ _ _ _
      case c2 => exact bcs_one _
      case c3 => unfold maxLen; omega
      case c4 => omega
      intro v2 w2 h4
      try simp only [set0] at h4
      obtain ⟨sp2, cap2, rfl, _, _⟩ := h4.sl_form 0 at0
      go_wp2_with (fail)
      go_roundw
      case rel => exact ⟨k + 1, sp2, cap2, by omega, by go_num, rfl, by rw [HSU.out, bcs_append]; exact h4⟩
      case measure => simp [intOf]; omega
    · have hkM : M ≤ k := by omega
      have hk9 : k = M := by omega
      have HK := Lib.hid hk9
      clear hk9
      have hat := fun w => HC.out N w (by omega)
      obtain ⟨x, hx⟩ : ∃ x, x = rowAt C N := ⟨_, rfl⟩
      rw [← hx] at hat
      have HX := Lib.hid (show x = rowAt C M by rw [hx, show N = M by omega])
      clear hx
      go_wp2_with (first | (go_at_call 41; (with_reducible refine (hat _).mono ?_); rintro e w1 ⟨rfl, rfl⟩) | (at_builtin; refine wpList_append_hp rfl _ _ 22 rfl 27 i0 (bvl (0, 0)) 2 16 Try.underlying22 hi hz0 hz1 hz2 rfl (by decide) (H3.out.lost _) 0 at0 rfl ⟨wr.heap.size, 0, none⟩ 1 1 (bcs [(x, 0)]) rfl ?c0 ?c1 ?c2 ?c3 ?c4 ?_))
      case c0 => rfl
      case c1 => exact bin_new _ _ _ _
      case c2 => exact bcs_one _
      case c3 => unfold maxLen; omega
      case c4 => omega
      intro v5 w5 H6
      try simp only [set0] at H6
      obtain ⟨sp5, cap5, rfl, _, _⟩ := H6.sl_form 0 at0
      rw [← bcs_append] at H6
      have H7 := Lib.hid H6
      clear H6
      go_wp2_with (first | (at_builtin; refine wpList_append_hp rfl _ _ 22 rfl 27 i0 (bvl (0, 0)) 2 16 Try.underlying22 hi hz0 hz1 hz2 rfl (by decide) (H7.out.lost _) 0 at0 rfl ⟨w5.heap.size, 0, none⟩ 1 1 (bcs [(-1, 0)]) rfl ?c0 ?c1 ?c2 ?c3 ?c4 ?_))
      case c0 => rfl
      case c1 => exact bin_new _ _ _ _
      case c2 => exact bcs_one _
      case c3 => unfold maxLen; omega
      case c4 => omega
      intro v6 w6 H8
      try simp only [set0] at H8
      go_wp2_with (fail)
      refine bodyPost_ret (results_tmp2 rfl _ _ _) rfl ⟨v6, rfl, ?_⟩
      rw [← bcs_append] at H8
      have e : k + 1 + 1 = ((cntP C k ++ [(x, 0)]) ++ [(-1, 0)]).length := by rw [List.length_append, List.length_append, cntP_length]; rfl
      rw [e] at H8
      rw [← HX.out, ← HK.out]
      exact H8
set_option maxHeartbeats 8000000 in
theorem qmvd_pb (h : Hp W w L F) (v : Int) (N : Nat) (hv : 0 < v) (hN : max v (-v) = (N : Int)) (hN2 : N ≤ 8192) (h9 : 9 ≤ N) (sum : Int) (vert : Bool) (hs : 0 ≤ sum) :
    Calls Try.prog 30 #[.int .i64 v, .int .i64 sum, .bool vert] w fun e w' => ∃ v', e = .returned (.tuple #[v', .int .i64 0]) ∧ Hp W w' (aBn v' (mvN N sum vert ++ sgB v) :: L) F := by
  have H := Lib.hid h
  clear h
  obtain ⟨i0, hi, hz0, hz1, hz2⟩ := bin_info
  obtain ⟨C, hC⟩ : ∃ C, C = mvC sum vert := ⟨_, rfl⟩
  obtain ⟨M, hM2⟩ : ∃ M : Nat, M = min N 9 := ⟨_, rfl⟩
  have hM : min (N : Int) 9 = (M : Int) := by omega
  have hM9 : M ≤ 9 := by omega
  have hMN : 9 ≤ M := by omega
  have e1 : mvN N sum vert = cntP C M ++ escB (N - 9) 3 := by unfold mvN; rw [← hM2, ← hC, cntB_eq, show M = 9 by omega, if_pos h9]; simp
  obtain ⟨Y, hY⟩ : ∃ Y, Y = escB (N - 9) 3 := ⟨_, rfl⟩
  have hYl : 0 < Y.length ∧ Y.length ≤ 200 := by rw [hY]; exact escB_len _ _ (by omega)
  have hE : escE (N - 9) 3 = 0 := escE_ok _ (by omega)
  rw [← hY] at e1
  have HY := Lib.hid hY
  clear hY
  have hesc : ∀ (w : World) (L : List AObj), Hp W w L F → Calls Try.prog 29 #[.int .u64 ((N : Int) - 9), .int .i64 3] w fun e w' => ∃ v', e = .returned (.tuple #[v', .int .i64 0]) ∧ Hp W w' (aBn v' Y :: L) F := fun w L h => by
    have := qescape_any h (N - 9) 3 (by omega)
    rw [hE, ← HY.out, show ((N - 9 : Nat) : Int) = (N : Int) - 9 by omega] at this
    exact this
  obtain ⟨hY1, hY2⟩ := hYl
  have e2 : sgB v = [(-1, 0)] := by unfold sgB; rw [if_neg (by omega), if_pos hv]
  have v1 : -8192 ≤ v := by omega
  have v2 : v ≤ 8192 := by omega
  rw [e1, e2]
  have hcol : ∀ (i : Nat) (w : World), i ≤ 100 → Calls Try.prog 41 #[.int .i64 i, .int .i64 sum, .bool vert] w fun e w' => e = .returned (.int .i64 (rowAt C i)) ∧ w = w' := fun i w h => by rw [hC]; exact column_any i h sum vert w
  have HC := Lib.hid hcol
  clear e1 e2 hC hM2 hE hcol
  have H0 := Lib.hid (H.out.sl_nil 27 2)
  go_enter Try.func30, Try.ntmps30
  go_wp2_with (fail)
  go_loopw [9, 10] (fun o i wr => ∃ (k : Nat) (sp : Option Addr) (cap : Nat), k ≤ M ∧ i = .int .i64 k ∧ o = .slice sp k cap ∧ Hp W wr (aSl 27 2 (.slice sp k cap) k (bcs (cntP C k)) :: L) F) (fun _ i _ => M - (intOf i).toNat)
  case atStart => exact ⟨0, none, 0, Nat.zero_le _, rfl, rfl, H0.out⟩
  case round =>
    obtain ⟨k, sp, cap, hk, rfl, rfl, h3⟩ := hrel
    have H3 := Lib.hid h3
    clear h3
    by_cases hkV : k < M
    · have hat := fun w => HC.out k w (by omega)
      have hsucc := cntP_succ C k
      obtain ⟨x, hx⟩ : ∃ x, x = rowAt C k := ⟨_, rfl⟩
      rw [← hx] at hat hsucc
      have HSU := Lib.hid hsucc
      clear hsucc hx
      go_wp2_with (first | (go_at_call 41; (with_reducible refine (hat _).mono ?_); rintro e w1 ⟨rfl, rfl⟩) | (at_builtin; refine wpList_append_hp rfl _ _ 22 rfl 27 i0 (bvl (0, 0)) 2 16 Try.underlying22 hi hz0 hz1 hz2 rfl (by decide) (H3.out.lost _) 0 at0 rfl ⟨wr.heap.size, 0, none⟩ 1 1 (bcs [(x, 1)]) rfl ?c0 ?c1 ?c2 ?c3 ?c4 ?_))
      case c0 => rfl
      case c1 => exact bin_new _ _ _ _
      case c2 => exact bcs_one _
      case c3 => unfold maxLen; omega
      case c4 => omega
      intro v2 w2 h4
      try simp only [set0] at h4
      obtain ⟨sp2, cap2, rfl, _, _⟩ := h4.sl_form 0 at0
      go_wp2_with (fail)
      go_roundw
      case rel => exact ⟨k + 1, sp2, cap2, by omega, by go_num, rfl, by rw [HSU.out, bcs_append]; exact h4⟩
      case measure => simp [intOf]; omega
    · have hkM : M ≤ k := by omega
      have hk9 : k = M := by omega
      have HK := Lib.hid hk9
      clear hk9
      go_wp2_with (first | (go_at_call 29; (with_reducible refine (hesc _ _ H3.out).mono ?_); rintro e w4 ⟨ve, rfl, H4⟩; obtain ⟨ge, ce, rfl⟩ := sl_pos (H4.sl 0 rfl) hY1) | (at_builtin; refine wpList_append_hp rfl _ _ 22 rfl 27 i0 (bvl (0, 0)) 2 16 Try.underlying22 hi hz0 hz1 hz2 rfl (by decide) H4 1 at1 rfl ⟨ge, 0, none⟩ Y.length ce (bcs Y) rfl ?c0 ?c1 ?c2 ?c3 ?c4 ?_))
      case c0 => exact bcs_length _
      case c1 => intro j u hu; exact (addr_off0 ge j) ▸ H4.sl_at 0 rfl hu
      case c2 => exact bcs_one _
      case c3 => unfold maxLen; omega
      case c4 => omega
      intro v5 w5 H5
      try simp only [set1] at H5
      obtain ⟨sp5, cap5, rfl, _, _⟩ := H5.sl_form 1 at1
      have H6 := H5.tail
      rw [← bcs_append] at H6
      have H7 := Lib.hid H6
      clear H6 H5
      go_wp2_with (first | (at_builtin; refine wpList_append_hp rfl _ _ 22 rfl 27 i0 (bvl (0, 0)) 2 16 Try.underlying22 hi hz0 hz1 hz2 rfl (by decide) (H7.out.lost _) 0 at0 rfl ⟨w5.heap.size, 0, none⟩ 1 1 (bcs [(-1, 0)]) rfl ?c0 ?c1 ?c2 ?c3 ?c4 ?_))
      case c0 => rfl
      case c1 => exact bin_new _ _ _ _
      case c2 => exact bcs_one _
      case c3 => unfold maxLen; omega
      case c4 => omega
      intro v6 w6 H8
      try simp only [set0] at H8
      go_wp2_with (fail)
      refine bodyPost_ret (results_tmp2 rfl _ _ _) rfl ⟨v6, rfl, ?_⟩
      rw [← bcs_append] at H8
      have e : k + Y.length + 1 = ((cntP C k ++ Y) ++ [(-1, 0)]).length := by rw [List.length_append, List.length_append, cntP_length]; rfl
      rw [e] at H8
      rw [← HK.out]
      exact H8
set_option maxHeartbeats 8000000 in
theorem qmvd_ns (h : Hp W w L F) (v : Int) (N : Nat) (hv : v < 0) (hN : max v (-v) = (N : Int)) (hN2 : N ≤ 8192) (h9 : N < 9) (sum : Int) (vert : Bool) (hs : 0 ≤ sum) :
    Calls Try.prog 30 #[.int .i64 v, .int .i64 sum, .bool vert] w fun e w' => ∃ v', e = .returned (.tuple #[v', .int .i64 0]) ∧ Hp W w' (aBn v' (mvN N sum vert ++ sgB v) :: L) F := by
  have H := Lib.hid h
  clear h
  obtain ⟨i0, hi, hz0, hz1, hz2⟩ := bin_info
  obtain ⟨C, hC⟩ : ∃ C, C = mvC sum vert := ⟨_, rfl⟩
  obtain ⟨M, hM2⟩ : ∃ M : Nat, M = min N 9 := ⟨_, rfl⟩
  have hM : min (N : Int) 9 = (M : Int) := by omega
  have hM9 : M ≤ 9 := by omega
  have hMN : M ≤ N ∧ N ≤ M := by omega
  obtain ⟨hMN1, hMN2⟩ := hMN
  have e1 : mvN N sum vert = cntP C M ++ [(rowAt C M, 0)] := by unfold mvN; rw [← hM2, ← hC, cntB_eq, decide_eq_true (show ((M : Nat) : Int) ≠ 9 by omega), if_neg (show ¬ 9 ≤ N by omega)]; simp
  have e2 : sgB v = [(-1, 1)] := by unfold sgB; rw [if_pos hv]
  have v1 : -8192 ≤ v := by omega
  have v2 : v ≤ 8192 := by omega
  rw [e1, e2]
  have hcol : ∀ (i : Nat) (w : World), i ≤ 100 → Calls Try.prog 41 #[.int .i64 i, .int .i64 sum, .bool vert] w fun e w' => e = .returned (.int .i64 (rowAt C i)) ∧ w = w' := fun i w h => by rw [hC]; exact column_any i h sum vert w
  have HC := Lib.hid hcol
  clear e1 e2 hC hM2 hcol
  have H0 := Lib.hid (H.out.sl_nil 27 2)
  go_enter Try.func30, Try.ntmps30
  go_wp2_with (fail)
  go_loopw [9, 10] (fun o i wr => ∃ (k : Nat) (sp : Option Addr) (cap : Nat), k ≤ M ∧ i = .int .i64 k ∧ o = .slice sp k cap ∧ Hp W wr (aSl 27 2 (.slice sp k cap) k (bcs (cntP C k)) :: L) F) (fun _ i _ => M - (intOf i).toNat)
  case atStart => exact ⟨0, none, 0, Nat.zero_le _, rfl, rfl, H0.out⟩
  case round =>
    obtain ⟨k, sp, cap, hk, rfl, rfl, h3⟩ := hrel
    have H3 := Lib.hid h3
    clear h3
    by_cases hkV : k < M
    · have hat := fun w => HC.out k w (by omega)
      have hsucc := cntP_succ C k
      obtain ⟨x, hx⟩ : ∃ x, x = rowAt C k := ⟨_, rfl⟩
      rw [← hx] at hat hsucc
      have HSU := Lib.hid hsucc
      clear hsucc hx
      go_wp2_with (first | (go_at_call 41; (with_reducible refine (hat _).mono ?_); rintro e w1 ⟨rfl, rfl⟩) | (at_builtin; refine wpList_append_hp rfl _ _ 22 rfl 27 i0 (bvl (0, 0)) 2 16 Try.underlying22 hi hz0 hz1 hz2 rfl (by decide) (H3.out.lost _) 0 at0 rfl ⟨wr.heap.size, 0, none⟩ 1 1 (bcs [(x, 1)]) rfl ?c0 ?c1 ?c2 ?c3 ?c4 ?_))
      case c0 => rfl
      case c1 => exact bin_new _ _ _ _
      case c2 => exact bcs_one _
      case c3 => unfold maxLen; omega
      case c4 => omega
      intro v2 w2 h4
      try simp only [set0] at h4
      obtain ⟨sp2, cap2, rfl, _, _⟩ := h4.sl_form 0 at0
      go_wp2_with (fail)
      go_roundw
      case rel => exact ⟨k + 1, sp2, cap2, by omega, by go_num, rfl, by rw [HSU.out, bcs_append]; exact h4⟩
      case measure => simp [intOf]; omega
    · have hkM : M ≤ k := by omega
      have hk9 : k = M := by omega
      have HK := Lib.hid hk9
      clear hk9
      have hat := fun w => HC.out N w (by omega)
      obtain ⟨x, hx⟩ : ∃ x, x = rowAt C N := ⟨_, rfl⟩
      rw [← hx] at hat
      have HX := Lib.hid (show x = rowAt C M by rw [hx, show N = M by omega])
      clear hx
      go_wp2_with (first | (go_at_call 41; (with_reducible refine (hat _).mono ?_); rintro e w1 ⟨rfl, rfl⟩) | (at_builtin; refine wpList_append_hp rfl _ _ 22 rfl 27 i0 (bvl (0, 0)) 2 16 Try.underlying22 hi hz0 hz1 hz2 rfl (by decide) (H3.out.lost _) 0 at0 rfl ⟨wr.heap.size, 0, none⟩ 1 1 (bcs [(x, 0)]) rfl ?c0 ?c1 ?c2 ?c3 ?c4 ?_))
      case c0 => rfl
      case c1 => exact bin_new _ _ _ _
      case c2 => exact bcs_one _
      case c3 => unfold maxLen; omega
      case c4 => omega
      intro v5 w5 H6
      try simp only [set0] at H6
      obtain ⟨sp5, cap5, rfl, _, _⟩ := H6.sl_form 0 at0
      rw [← bcs_append] at H6
      have H7 := Lib.hid H6
      clear H6
      go_wp2_with (first | (at_builtin; refine wpList_append_hp rfl _ _ 22 rfl 27 i0 (bvl (0, 0)) 2 16 Try.underlying22 hi hz0 hz1 hz2 rfl (by decide) (H7.out.lost _) 0 at0 rfl ⟨w5.heap.size, 0, none⟩ 1 1 (bcs [(-1, 1)]) rfl ?c0 ?c1 ?c2 ?c3 ?c4 ?_))
      case c0 => rfl
      case c1 => exact bin_new _ _ _ _
      case c2 => exact bcs_one _
      case c3 => unfold maxLen; omega
      case c4 => omega
      intro v6 w6 H8
      try simp only [set0] at H8
      go_wp2_with (fail)
      refine bodyPost_ret (results_tmp2 rfl _ _ _) rfl ⟨v6, rfl, ?_⟩
      rw [← bcs_append] at H8
      have e : k + 1 + 1 = ((cntP C k ++ [(x, 0)]) ++ [(-1, 1)]).length := by rw [List.length_append, List.length_append, cntP_length]; rfl
      rw [e] at H8
      rw [← HX.out, ← HK.out]
      exact H8
set_option maxHeartbeats 8000000 in
theorem qmvd_nb (h : Hp W w L F) (v : Int) (N : Nat) (hv : v < 0) (hN : max v (-v) = (N : Int)) (hN2 : N ≤ 8192) (h9 : 9 ≤ N) (sum : Int) (vert : Bool) (hs : 0 ≤ sum) :
    Calls Try.prog 30 #[.int .i64 v, .int .i64 sum, .bool vert] w fun e w' => ∃ v', e = .returned (.tuple #[v', .int .i64 0]) ∧ Hp W w' (aBn v' (mvN N sum vert ++ sgB v) :: L) F := by
  have H := Lib.hid h
  clear h
  obtain ⟨i0, hi, hz0, hz1, hz2⟩ := bin_info
  obtain ⟨C, hC⟩ : ∃ C, C = mvC sum vert := ⟨_, rfl⟩
  obtain ⟨M, hM2⟩ : ∃ M : Nat, M = min N 9 := ⟨_, rfl⟩
  have hM : min (N : Int) 9 = (M : Int) := by omega
  have hM9 : M ≤ 9 := by omega
  have hMN : 9 ≤ M := by omega
  have e1 : mvN N sum vert = cntP C M ++ escB (N - 9) 3 := by unfold mvN; rw [← hM2, ← hC, cntB_eq, show M = 9 by omega, if_pos h9]; simp
  obtain ⟨Y, hY⟩ : ∃ Y, Y = escB (N - 9) 3 := ⟨_, rfl⟩
  have hYl : 0 < Y.length ∧ Y.length ≤ 200 := by rw [hY]; exact escB_len _ _ (by omega)
  have hE : escE (N - 9) 3 = 0 := escE_ok _ (by omega)
  rw [← hY] at e1
  have HY := Lib.hid hY
  clear hY
  have hesc : ∀ (w : World) (L : List AObj), Hp W w L F → Calls Try.prog 29 #[.int .u64 ((N : Int) - 9), .int .i64 3] w fun e w' => ∃ v', e = .returned (.tuple #[v', .int .i64 0]) ∧ Hp W w' (aBn v' Y :: L) F := fun w L h => by
    have := qescape_any h (N - 9) 3 (by omega)
    rw [hE, ← HY.out, show ((N - 9 : Nat) : Int) = (N : Int) - 9 by omega] at this
    exact this
  obtain ⟨hY1, hY2⟩ := hYl
  have e2 : sgB v = [(-1, 1)] := by unfold sgB; rw [if_pos hv]
  have v1 : -8192 ≤ v := by omega
  have v2 : v ≤ 8192 := by omega
  rw [e1, e2]
  have hcol : ∀ (i : Nat) (w : World), i ≤ 100 → Calls Try.prog 41 #[.int .i64 i, .int .i64 sum, .bool vert] w fun e w' => e = .returned (.int .i64 (rowAt C i)) ∧ w = w' := fun i w h => by rw [hC]; exact column_any i h sum vert w
  have HC := Lib.hid hcol
  clear e1 e2 hC hM2 hE hcol
  have H0 := Lib.hid (H.out.sl_nil 27 2)
  go_enter Try.func30, Try.ntmps30
  go_wp2_with (fail)
  go_loopw [9, 10] (fun o i wr => ∃ (k : Nat) (sp : Option Addr) (cap : Nat), k ≤ M ∧ i = .int .i64 k ∧ o = .slice sp k cap ∧ Hp W wr (aSl 27 2 (.slice sp k cap) k (bcs (cntP C k)) :: L) F) (fun _ i _ => M - (intOf i).toNat)
  case atStart => exact ⟨0, none, 0, Nat.zero_le _, rfl, rfl, H0.out⟩
  case round =>
    obtain ⟨k, sp, cap, hk, rfl, rfl, h3⟩ := hrel
    have H3 := Lib.hid h3
    clear h3
    by_cases hkV : k < M
    · have hat := fun w => HC.out k w (by omega)
      have hsucc := cntP_succ C k
      obtain ⟨x, hx⟩ : ∃ x, x = rowAt C k := ⟨_, rfl⟩
      rw [← hx] at hat hsucc
      have HSU := Lib.hid hsucc
      clear hsucc hx
      go_wp2_with (first | (go_at_call 41; (with_reducible refine (hat _).mono ?_); rintro e w1 ⟨rfl, rfl⟩) | (at_builtin; refine wpList_append_hp rfl _ _ 22 rfl 27 i0 (bvl (0, 0)) 2 16 Try.underlying22 hi hz0 hz1 hz2 rfl (by decide) (H3.out.lost _) 0 at0 rfl ⟨wr.heap.size, 0, none⟩ 1 1 (bcs [(x, 1)]) rfl ?c0 ?c1 ?c2 ?c3 ?c4 ?_))
      case c0 => rfl
      case c1 => exact bin_new _ _ _ _
      case c2 => exact bcs_one _
      case c3 => unfold maxLen; omega
      case c4 => omega
      intro v2 w2 h4
      try simp only [set0] at h4
      obtain ⟨sp2, cap2, rfl, _, _⟩ := h4.sl_form 0 at0
      go_wp2_with (fail)
      go_roundw
      case rel => exact ⟨k + 1, sp2, cap2, by omega, by go_num, rfl, by rw [HSU.out, bcs_append]; exact h4⟩
      case measure => simp [intOf]; omega
    · have hkM : M ≤ k := by omega
      have hk9 : k = M := by omega
      have HK := Lib.hid hk9
      clear hk9
      go_wp2_with (first | (go_at_call 29; (with_reducible refine (hesc _ _ H3.out).mono ?_); rintro e w4 ⟨ve, rfl, H4⟩; obtain ⟨ge, ce, rfl⟩ := sl_pos (H4.sl 0 rfl) hY1) | (at_builtin; refine wpList_append_hp rfl _ _ 22 rfl 27 i0 (bvl (0, 0)) 2 16 Try.underlying22 hi hz0 hz1 hz2 rfl (by decide) H4 1 at1 rfl ⟨ge, 0, none⟩ Y.length ce (bcs Y) rfl ?c0 ?c1 ?c2 ?c3 ?c4 ?_))
      case c0 => exact bcs_length _
      case c1 => intro j u hu; exact (addr_off0 ge j) ▸ H4.sl_at 0 rfl hu
      case c2 => exact bcs_one _
      case c3 => unfold maxLen; omega
      case c4 => omega
      intro v5 w5 H5
      try simp only [set1] at H5
      obtain ⟨sp5, cap5, rfl, _, _⟩ := H5.sl_form 1 at1
      have H6 := H5.tail
      rw [← bcs_append] at H6
      have H7 := Lib.hid H6
      clear H6 H5
      go_wp2_with (first | (at_builtin; refine wpList_append_hp rfl _ _ 22 rfl 27 i0 (bvl (0, 0)) 2 16 Try.underlying22 hi hz0 hz1 hz2 rfl (by decide) (H7.out.lost _) 0 at0 rfl ⟨w5.heap.size, 0, none⟩ 1 1 (bcs [(-1, 1)]) rfl ?c0 ?c1 ?c2 ?c3 ?c4 ?_))
      case c0 => rfl
      case c1 => exact bin_new _ _ _ _
      case c2 => exact bcs_one _
      case c3 => unfold maxLen; omega
      case c4 => omega
      intro v6 w6 H8
      try simp only [set0] at H8
      go_wp2_with (fail)
      refine bodyPost_ret (results_tmp2 rfl _ _ _) rfl ⟨v6, rfl, ?_⟩
      rw [← bcs_append] at H8
      have e : k + Y.length + 1 = ((cntP C k ++ Y) ++ [(-1, 1)]).length := by rw [List.length_append, List.length_append, cntP_length]; rfl
      rw [e] at H8
      rw [← HK.out]
      exact H8
set_option maxHeartbeats 8000000 in
theorem qmvd_zs (h : Hp W w L F) (v : Int) (N : Nat) (hv : v = 0) (hN : max v (-v) = (N : Int)) (hN2 : N ≤ 8192) (h9 : N < 9) (sum : Int) (vert : Bool) (hs : 0 ≤ sum) :
    Calls Try.prog 30 #[.int .i64 v, .int .i64 sum, .bool vert] w fun e w' => ∃ v', e = .returned (.tuple #[v', .int .i64 0]) ∧ Hp W w' (aBn v' (mvN N sum vert ++ sgB v) :: L) F := by
  have H := Lib.hid h
  clear h
  obtain ⟨i0, hi, hz0, hz1, hz2⟩ := bin_info
  obtain ⟨C, hC⟩ : ∃ C, C = mvC sum vert := ⟨_, rfl⟩
  obtain ⟨M, hM2⟩ : ∃ M : Nat, M = min N 9 := ⟨_, rfl⟩
  have hM : min (N : Int) 9 = (M : Int) := by omega
  have hM9 : M ≤ 9 := by omega
  have hMN : M ≤ N ∧ N ≤ M := by omega
  obtain ⟨hMN1, hMN2⟩ := hMN
  have e1 : mvN N sum vert = cntP C M ++ [(rowAt C M, 0)] := by unfold mvN; rw [← hM2, ← hC, cntB_eq, decide_eq_true (show ((M : Nat) : Int) ≠ 9 by omega), if_neg (show ¬ 9 ≤ N by omega)]; simp
  have e2 : sgB v = [] := by unfold sgB; rw [if_neg (by omega), if_neg (by omega)]
  have v1 : -8192 ≤ v := by omega
  have v2 : v ≤ 8192 := by omega
  rw [e1, e2]
  have hcol : ∀ (i : Nat) (w : World), i ≤ 100 → Calls Try.prog 41 #[.int .i64 i, .int .i64 sum, .bool vert] w fun e w' => e = .returned (.int .i64 (rowAt C i)) ∧ w = w' := fun i w h => by rw [hC]; exact column_any i h sum vert w
  have HC := Lib.hid hcol
  clear e1 e2 hC hM2 hcol
  have hv0 : v ≤ 0 := by omega
  have hv1 : 0 ≤ v := by omega
  clear hv
  have H0 := Lib.hid (H.out.sl_nil 27 2)
  go_enter Try.func30, Try.ntmps30
  go_wp2_with (fail)
  go_loopw [9, 10] (fun o i wr => ∃ (k : Nat) (sp : Option Addr) (cap : Nat), k ≤ M ∧ i = .int .i64 k ∧ o = .slice sp k cap ∧ Hp W wr (aSl 27 2 (.slice sp k cap) k (bcs (cntP C k)) :: L) F) (fun _ i _ => M - (intOf i).toNat)
  case atStart => exact ⟨0, none, 0, Nat.zero_le _, rfl, rfl, H0.out⟩
  case round =>
    obtain ⟨k, sp, cap, hk, rfl, rfl, h3⟩ := hrel
    have H3 := Lib.hid h3
    clear h3
    by_cases hkV : k < M
    · exfalso; omega
    · have hkM : M ≤ k := by omega
      have hk9 : k = M := by omega
      have HK := Lib.hid hk9
      clear hk9
      have hat := fun w => HC.out N w (by omega)
      obtain ⟨x, hx⟩ : ∃ x, x = rowAt C N := ⟨_, rfl⟩
      rw [← hx] at hat
      have HX := Lib.hid (show x = rowAt C M by rw [hx, show N = M by omega])
      clear hx
      go_wp2_with (first | (go_at_call 41; (with_reducible refine (hat _).mono ?_); rintro e w1 ⟨rfl, rfl⟩) | (at_builtin; refine wpList_append_hp rfl _ _ 22 rfl 27 i0 (bvl (0, 0)) 2 16 Try.underlying22 hi hz0 hz1 hz2 rfl (by decide) (H3.out.lost _) 0 at0 rfl ⟨wr.heap.size, 0, none⟩ 1 1 (bcs [(x, 0)]) rfl ?c0 ?c1 ?c2 ?c3 ?c4 ?_))
      case c0 => rfl
      case c1 => exact bin_new _ _ _ _
      case c2 => exact bcs_one _
      case c3 => unfold maxLen; omega
      case c4 => omega
      intro v5 w5 H6
      try simp only [set0] at H6
      obtain ⟨sp5, cap5, rfl, _, _⟩ := H6.sl_form 0 at0
      rw [← bcs_append] at H6
      have H7 := Lib.hid H6
      clear H6
      go_wp2_with (fail)
      refine bodyPost_ret (results_tmp2 rfl _ _ _) rfl ⟨.slice sp5 (k + 1) cap5, rfl, ?_⟩
      have H8 := H7.out
      have e : k + 1 = (cntP C k ++ [(x, 0)]).length := by rw [List.length_append, cntP_length]; rfl
      rw [List.append_nil, ← HX.out, ← HK.out]
      unfold aBn
      rw [← e]
      exact H8
theorem qmvd_bad (h : Hp W w L F) (v sum : Int) (vert : Bool) (hb : mvE v sum ≠ 0) :
    Calls Try.prog 30 #[.int .i64 v, .int .i64 sum, .bool vert] w fun e w' => e = .returned (.tuple #[.slice none 0 0, .int .i64 3]) ∧ Hp W w' L F := by
  have H := Lib.hid h
  clear h
  have h0 : ¬ (0 ≤ sum ∧ -8192 ≤ v ∧ v ≤ 8192) := fun h => hb (if_pos h)
  clear hb
  by_cases h1 : sum < 0
  · clear h0
    go_enter Try.func30, Try.ntmps30
    go_wp2_with (fail)
    exact bodyPost_ret (results_tmp2 rfl _ _ _) rfl ⟨rfl, H.out⟩
  · by_cases h2 : v < -8192
    · clear h0
      go_enter Try.func30, Try.ntmps30
      go_wp2_with (fail)
      exact bodyPost_ret (results_tmp2 rfl _ _ _) rfl ⟨rfl, H.out⟩
    · have h3 : 8192 < v := by omega
      clear h0
      go_enter Try.func30, Try.ntmps30
      go_wp2_with (fail)
      exact bodyPost_ret (results_tmp2 rfl _ _ _) rfl ⟨rfl, H.out⟩
theorem qmvd_any (h : Hp W w L F) (v sum : Int) (vert : Bool) :
    Calls Try.prog 30 #[.int .i64 v, .int .i64 sum, .bool vert] w fun e w' => ∃ v', e = .returned (.tuple #[v', .int .i64 (mvE v sum)]) ∧ Hp W w' (aBn v' (mvB v sum vert) :: L) F := by
  by_cases hE : mvE v sum = 0
  · have hB : mvB v sum vert = mvN v.natAbs sum vert ++ sgB v := if_pos hE
    have hc : 0 ≤ sum ∧ -8192 ≤ v ∧ v ≤ 8192 := by unfold mvE at hE; split at hE <;> first | assumption | omega
    rw [hB, hE]
    obtain ⟨N, hN⟩ : ∃ N, N = v.natAbs := ⟨_, rfl⟩
    rw [← hN]
    have hm : max v (-v) = (N : Int) := by omega
    rcases Int.lt_trichotomy v 0 with h1 | h1 | h1
    · by_cases h9 : N < 9
      · exact qmvd_ns h v N h1 hm (by omega) h9 sum vert hc.1
      · exact qmvd_nb h v N h1 hm (by omega) (by omega) sum vert hc.1
    · exact qmvd_zs h v N h1 hm (by omega) (by omega) sum vert hc.1
    · by_cases h9 : N < 9
      · exact qmvd_ps h v N h1 hm (by omega) h9 sum vert hc.1
      · exact qmvd_pb h v N h1 hm (by omega) (by omega) sum vert hc.1
  · have hB : mvB v sum vert = [] := if_neg hE
    have h3 : mvE v sum = 3 := by
      by_cases c : 0 ≤ sum ∧ -8192 ≤ v ∧ v ≤ 8192
      · exact absurd (if_pos c) hE
      · exact if_neg c
    refine (qmvd_bad h v sum vert hE).mono ?_
    rintro e w' ⟨rfl, h'⟩
    rw [hB, h3]
    exact ⟨_, rfl, h'.sl_nil _ _⟩
end

end Go.Proofs.Ytnefiaghojojgaa
