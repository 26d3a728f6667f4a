/- Mvd, Qp. -/
import Derived.Test.YtnefiaghojojgaaVu
namespace Go.Proofs.Ytnefiaghojojgaa
open Go.RowKit Go.Shelf
set_option linter.unusedVariables false
set_option maxRecDepth 100000
set_option linter.unusedSimpArgs false

def mvB0 (vert : Bool) : Int := if vert then 37 else 30
def mvS (sum : Int) : Int := if 32 < sum then 2 else if 2 < sum then 1 else 0
def mvC (sum : Int) (vert : Bool) : List Int := [mvB0 vert + mvS sum, mvB0 vert + 3, mvB0 vert + 4, mvB0 vert + 5, mvB0 vert + 6]
def mvE (v sum : Int) : Int := if 0 ≤ sum ∧ -8192 ≤ v ∧ v ≤ 8192 then 0 else 3
def sgB (v : Int) : List (Int × Int) := if v < 0 then [(-1, 1)] else if 0 < v then [(-1, 0)] else []
def mvN (n : Nat) (sum : Int) (vert : Bool) : List (Int × Int) := cntB (mvC sum vert) (min n 9) (decide (((min n 9 : Nat) : Int) ≠ 9)) ++ if 9 ≤ n then escB (n - 9) 3 else []
def mvB (v sum : Int) (vert : Bool) : List (Int × Int) := if mvE v sum = 0 then mvN v.natAbs sum vert ++ sgB v else []

section
variable {W w : World} {L : List AObj} {F : List (Nat × Obj)}
set_option maxHeartbeats 1000000 in
theorem moves_ctx (sum : Int) (vert : Bool) (w : World) :
    Calls Try.prog 25 #[.int .i64 sum, .bool vert] w fun e w' => ∃ bl g, e = .returned (.func (.func 37) #[] #[.pointer (some ⟨bl, 0, none⟩)]) ∧ RowIn w' bl g 5 (mvC sum vert) ∧ bl < w'.heap.size ∧ g < w'.heap.size ∧ Below w.heap.size w w' := by
  obtain ⟨l, hl⟩ : ∃ l, l = mvC sum vert := ⟨_, rfl⟩
  rw [← hl]
  have h5 : l.length = 5 := by rw [hl]; rfl
  have HL := Lib.hid hl
  have C := fun (cs : Array Value) (hcs : cs = (l.map (Value.int .i64)).toArray) => ctx_new w l cs 59 hcs (by omega) (by omega)
  clear hl
  have hb : ∀ o, Below w.heap.size w (w.alloc o) := fun o => (Below.refl _ _).alloc (Nat.le_refl _) _
  cases vert with
  | false =>
    by_cases h1 : 32 < sum
    · have e : #[Value.int .i64 32, .int .i64 33, .int .i64 34, .int .i64 35, .int .i64 36] = (l.map (Value.int .i64)).toArray := by rw [HL.out]; unfold mvC mvS mvB0; rw [if_pos h1]; rfl
      have c1 := ctx_new w l #[Value.int .i64 32, .int .i64 33, .int .i64 34, .int .i64 35, .int .i64 36] 3 e (by omega) (by omega)
      have E := Lib.hid h5
      clear h5 e C
      go_enter Try.func25, Try.ntmps25
      go_wp2_with (first | (go_at_call 22; (with_reducible refine (row_ctx (n := 5) c1 E.out.symm).mono ?_); rintro e w1 ⟨bl, rfl, r1, r2, r3, r4⟩))
      exact bodyPost_ret (results_tmp rfl _ _ _) rfl ⟨bl, _, rfl, r1, r2, r3, (hb _).trans (r4.mono (by simp))⟩
    · by_cases h2 : 2 < sum
      · have e : #[Value.int .i64 31, .int .i64 33, .int .i64 34, .int .i64 35, .int .i64 36] = (l.map (Value.int .i64)).toArray := by rw [HL.out]; unfold mvC mvS mvB0; rw [if_neg h1, if_pos h2]; rfl
        have c1 := ctx_new w l #[Value.int .i64 31, .int .i64 33, .int .i64 34, .int .i64 35, .int .i64 36] 3 e (by omega) (by omega)
        have E := Lib.hid h5
        clear h5 e C
        go_enter Try.func25, Try.ntmps25
        go_wp2_with (first | (go_at_call 22; (with_reducible refine (row_ctx (n := 5) c1 E.out.symm).mono ?_); rintro e w1 ⟨bl, rfl, r1, r2, r3, r4⟩))
        exact bodyPost_ret (results_tmp rfl _ _ _) rfl ⟨bl, _, rfl, r1, r2, r3, (hb _).trans (r4.mono (by simp))⟩
      · have e : #[Value.int .i64 30, .int .i64 33, .int .i64 34, .int .i64 35, .int .i64 36] = (l.map (Value.int .i64)).toArray := by rw [HL.out]; unfold mvC mvS mvB0; rw [if_neg h1, if_neg h2]; rfl
        have c1 := ctx_new w l #[Value.int .i64 30, .int .i64 33, .int .i64 34, .int .i64 35, .int .i64 36] 3 e (by omega) (by omega)
        have E := Lib.hid h5
        clear h5 e C
        go_enter Try.func25, Try.ntmps25
        go_wp2_with (first | (go_at_call 22; (with_reducible refine (row_ctx (n := 5) c1 E.out.symm).mono ?_); rintro e w1 ⟨bl, rfl, r1, r2, r3, r4⟩))
        exact bodyPost_ret (results_tmp rfl _ _ _) rfl ⟨bl, _, rfl, r1, r2, r3, (hb _).trans (r4.mono (by simp))⟩
  | true =>
    by_cases h1 : 32 < sum
    · have e : #[Value.int .i64 39, .int .i64 40, .int .i64 41, .int .i64 42, .int .i64 43] = (l.map (Value.int .i64)).toArray := by rw [HL.out]; unfold mvC mvS mvB0; rw [if_pos h1]; rfl
      have c1 := ctx_new w l #[Value.int .i64 39, .int .i64 40, .int .i64 41, .int .i64 42, .int .i64 43] 3 e (by omega) (by omega)
      have E := Lib.hid h5
      clear h5 e C
      go_enter Try.func25, Try.ntmps25
      go_wp2_with (first | (go_at_call 22; (with_reducible refine (row_ctx (n := 5) c1 E.out.symm).mono ?_); rintro e w1 ⟨bl, rfl, r1, r2, r3, r4⟩))
      exact bodyPost_ret (results_tmp rfl _ _ _) rfl ⟨bl, _, rfl, r1, r2, r3, (hb _).trans (r4.mono (by simp))⟩
    · by_cases h2 : 2 < sum
      · have e : #[Value.int .i64 38, .int .i64 40, .int .i64 41, .int .i64 42, .int .i64 43] = (l.map (Value.int .i64)).toArray := by rw [HL.out]; unfold mvC mvS mvB0; rw [if_neg h1, if_pos h2]; rfl
        have c1 := ctx_new w l #[Value.int .i64 38, .int .i64 40, .int .i64 41, .int .i64 42, .int .i64 43] 3 e (by omega) (by omega)
        have E := Lib.hid h5
        clear h5 e C
        go_enter Try.func25, Try.ntmps25
        go_wp2_with (first | (go_at_call 22; (with_reducible refine (row_ctx (n := 5) c1 E.out.symm).mono ?_); rintro e w1 ⟨bl, rfl, r1, r2, r3, r4⟩))
        exact bodyPost_ret (results_tmp rfl _ _ _) rfl ⟨bl, _, rfl, r1, r2, r3, (hb _).trans (r4.mono (by simp))⟩
      · have e : #[Value.int .i64 37, .int .i64 40, .int .i64 41, .int .i64 42, .int .i64 43] = (l.map (Value.int .i64)).toArray := by rw [HL.out]; unfold mvC mvS mvB0; rw [if_neg h1, if_neg h2]; rfl
        have c1 := ctx_new w l #[Value.int .i64 37, .int .i64 40, .int .i64 41, .int .i64 42, .int .i64 43] 3 e (by omega) (by omega)
        have E := Lib.hid h5
        clear h5 e C
        go_enter Try.func25, Try.ntmps25
        go_wp2_with (first | (go_at_call 22; (with_reducible refine (row_ctx (n := 5) c1 E.out.symm).mono ?_); rintro e w1 ⟨bl, rfl, r1, r2, r3, r4⟩))
        exact bodyPost_ret (results_tmp rfl _ _ _) rfl ⟨bl, _, rfl, r1, r2, r3, (hb _).trans (r4.mono (by simp))⟩

theorem mvC_len (sum : Int) (vert : Bool) : (mvC sum vert).length = 5 := rfl

set_option maxHeartbeats 2000000 in
theorem mvd_bad (h : Hp W w L F) (v sum : Int) (vert : Bool) (hb : mvE v sum ≠ 0) :
    Calls Try.prog 13 #[.int .i64 v, .int .i64 sum, .bool vert] w fun e w' => e = .returned (.tuple #[.slice none 0 0, .int .i64 3]) ∧ Hp W w' L F := by
  have H := Lib.hid h
  clear h
  have h0 : ¬ (0 ≤ sum ∧ -8192 ≤ v ∧ v ≤ 8192) := fun h => hb (if_pos h)
  clear hb
  by_cases h1 : sum < 0
  · clear h0
    go_enter Try.func13, Try.ntmps13
    go_wp2_with (fail)
    exact bodyPost_ret (results_tmp2 rfl _ _ _) rfl ⟨rfl, H.out⟩
  · by_cases h2 : v < -8192
    · clear h0
      go_enter Try.func13, Try.ntmps13
      go_wp2_with (fail)
      exact bodyPost_ret (results_tmp2 rfl _ _ _) rfl ⟨rfl, H.out⟩
    · have h3 : 8192 < v := by omega
      clear h0
      go_enter Try.func13, Try.ntmps13
      go_wp2_with (fail)
      exact bodyPost_ret (results_tmp2 rfl _ _ _) rfl ⟨rfl, H.out⟩

set_option maxHeartbeats 2000000 in
theorem mvd_zero (h : Hp W w L F) (sum : Int) (vert : Bool) (hs : 0 ≤ sum) :
    Calls Try.prog 13 #[.int .i64 0, .int .i64 sum, .bool vert] w fun e w' => ∃ v', e = .returned (.tuple #[v', .int .i64 0]) ∧ Hp W w' (aBn v' (mvN 0 sum vert ++ sgB 0) :: L) F := by
  have H := Lib.hid h
  clear h
  have e : mvN 0 sum vert ++ sgB 0 = cntB (mvC sum vert) 0 (decide (((0 : Nat) : Int) ≠ 9)) := by simp [mvN, sgB]
  rw [e]
  clear e
  go_enter Try.func13, Try.ntmps13
  go_wp2_with (first | (go_at_call 25; (with_reducible refine (moves_ctx sum vert _).mono ?_); rintro e w1 ⟨bl, g, rfl, r1, r2, r3, r4⟩) | (go_at_call 21; (refine (counted_ctx (v := 0) r1 r2 r3 rfl).mono ?_); rintro e w2 ⟨bv, ba, bm, rfl, q1, q2⟩; have H2 := (H.out.same r4).same q2) | (go_at_call 20; (with_reducible refine (collect_cnt H2 q1 (by omega)).mono ?_); rintro e w3 ⟨v', rfl, H3⟩))
  exact bodyPost_ret (results_tmp2 rfl _ _ _) rfl ⟨v', rfl, H3⟩
-- PRINTED by src/mvd.py
theorem addr_off0 (g j : Nat) : ((⟨g, 0, none⟩ : Addr).add j) = ⟨g, j, none⟩ := by unfold Addr.add; split <;> simp_all
theorem sl_pos {w : World} {e : TypeId} {size n : Nat} {v : Value} {xs : List Value} (h : w.ownsRow 0 e size v n xs) (hn : 0 < n) : ∃ g cap, v = .slice (some ⟨g, 0, none⟩) n cap := by
  rcases h.2 with ⟨_, h0⟩ | ⟨g, cap, cur, rfl, _⟩
  · omega
  · exact ⟨g, cap, rfl⟩
theorem escE_ok (v : Nat) (h : v ≤ 4294967294) : escE v 3 = 0 := by
  refine if_neg ?_
  have : v / 2 ^ (3 : Int).toNat ≤ v := Nat.div_le_self _ _
  omega
theorem escB_len (v : Nat) (k : Int) (h : v ≤ 4294967294) (hk : 0 ≤ k ∧ k ≤ 8 := by decide) : 0 < (escB v k).length ∧ (escB v k).length ≤ 200 := by
  have hd : v / 2 ^ k.toNat ≤ v := Nat.div_le_self _ _
  have hE : escE v k = 0 := if_neg (by omega)
  have := lgN_le (v := v / 2 ^ k.toNat) (by omega)
  unfold escB
  rw [if_pos hE, List.length_append, digB_length, digB_length]
  omega

set_option maxHeartbeats 4000000 in
theorem mvd_ps (h : Hp W w L F) (v : Int) (N : Nat) (hv : 0 < v) (hN : max v (-v) = (N : Int)) (hN2 : N ≤ 8192) (h9 : N < 9) (sum : Int) (vert : Bool) (hs : 0 ≤ sum) :
    Calls Try.prog 13 #[.int .i64 v, .int .i64 sum, .bool vert] w fun e w' => ∃ v', e = .returned (.tuple #[v', .int .i64 0]) ∧ Hp W w' (aBn v' (mvN N sum vert ++ sgB v) :: L) F := by
  have H := Lib.hid h
  clear h
  obtain ⟨i0, hi, hz0, hz1, hz2⟩ := bin_info
  have hM : min (N : Int) 9 = (N : Int) := by omega
  have e1 : mvN N sum vert = cntB (mvC sum vert) N (decide (((N : Nat) : Int) ≠ 9)) := by unfold mvN; rw [show min N 9 = N by omega, if_neg (by omega)]; simp
  have e2 : sgB v = [(-1, 0)] := by unfold sgB; rw [if_neg (by omega), if_pos hv]
  obtain ⟨X, hX⟩ : ∃ X, X = cntB (mvC sum vert) N (decide (((N : Nat) : Int) ≠ 9)) := ⟨_, rfl⟩
  have hXl : X.length ≤ 10 := by rw [hX, cntB_length]; split <;> omega
  have v1 : -8192 ≤ v := by omega
  have v2 : v ≤ 8192 := by omega
  rw [e1, e2, ← hX]
  have HX := Lib.hid hX
  have HXL := Lib.hid hXl
  clear e1 e2 hX hXl
  go_enter Try.func13, Try.ntmps13
  go_wp2_with (first | (go_at_call 25; (with_reducible refine (moves_ctx sum vert _).mono ?_); rintro e w1 ⟨bl, g, rfl, r1, r2, r3, r4⟩) | (go_at_call 21; (with_reducible refine (counted_ctx r1 r2 r3 rfl).mono ?_); rintro e w2 ⟨bv, ba, bm, rfl, q1, q2⟩; have H2 := (H.out.same r4).same q2) | (go_at_call 20; (with_reducible refine (collect_cnt H2 q1 (by omega)).mono ?_); rintro e w3 ⟨v', rfl, H3⟩; rw [← HX.out] at H3) | (at_builtin; refine wpList_append_hp rfl _ _ 22 rfl 27 i0 (bvl (0, 0)) 2 16 Try.underlying22 hi hz0 hz1 hz2 rfl (by decide) (H3.lost _) 0 at0 rfl ⟨w3.heap.size, 0, none⟩ 1 1 (bcs [(-1, 0)]) rfl ?c0 ?c1 ?c2 ?c3 ?c4 ?_))
  case c0 => rfl
  case c1 => exact bin_new _ _ _ _
  case c2 => exact bcs_one _
  case c3 => have := HXL.out; unfold maxLen; omega
  case c4 => have := HXL.out; omega
  intro v6 w6 H6
  try simp only [set0] at H6
  go_wp2_with (fail)
  refine bodyPost_ret (results_tmp2 rfl _ _ _) rfl ⟨v6, rfl, ?_⟩
  rw [← bcs_append] at H6
  have e : X.length + 1 = (X ++ [(-1, 0)]).length := by simp
  rw [e] at H6
  exact H6

set_option maxHeartbeats 4000000 in
theorem mvd_pb (h : Hp W w L F) (v : Int) (N : Nat) (hv : 0 < v) (hN : max v (-v) = (N : Int)) (hN2 : N ≤ 8192) (h9 : 9 ≤ N) (sum : Int) (vert : Bool) (hs : 0 ≤ sum) :
    Calls Try.prog 13 #[.int .i64 v, .int .i64 sum, .bool vert] w fun e w' => ∃ v', e = .returned (.tuple #[v', .int .i64 0]) ∧ Hp W w' (aBn v' (mvN N sum vert ++ sgB v) :: L) F := by
  have H := Lib.hid h
  clear h
  obtain ⟨i0, hi, hz0, hz1, hz2⟩ := bin_info
  have hM : min (N : Int) 9 = 9 := by omega
  have e1 : mvN N sum vert = cntB (mvC sum vert) 9 (decide (((9 : Nat) : Int) ≠ 9)) ++ escB (N - 9) 3 := by unfold mvN; rw [show min N 9 = 9 by omega, if_pos (by omega)]
  have e2 : sgB v = [(-1, 0)] := by unfold sgB; rw [if_neg (by omega), if_pos hv]
  obtain ⟨X, hX⟩ : ∃ X, X = cntB (mvC sum vert) 9 (decide (((9 : Nat) : Int) ≠ 9)) := ⟨_, rfl⟩
  have hXl : X.length ≤ 10 := by rw [hX, cntB_length]; split <;> omega
  have v1 : -8192 ≤ v := by omega
  have v2 : v ≤ 8192 := by omega
  rw [e1, e2, ← hX]
  obtain ⟨Y, hY⟩ : ∃ Y, Y = escB (N - 9) 3 := ⟨_, rfl⟩
  have hYl : 0 < Y.length ∧ Y.length ≤ 200 := by rw [hY]; exact escB_len _ _ (by omega)
  have hE : escE (N - 9) 3 = 0 := escE_ok _ (by omega)
  rw [← hY]
  have HY := Lib.hid hY
  clear hY
  have hesc : ∀ (w : World) (L : List AObj), Hp W w L F → Calls Try.prog 12 #[.int .u64 ((N : Int) - 9), .int .i64 3] w fun e w' => ∃ v', e = .returned (.tuple #[v', .int .i64 0]) ∧ Hp W w' (aBn v' Y :: L) F := fun w L h => by
    have := escape_any h (N - 9) 3 (by omega)
    rw [hE, ← HY.out, show ((N - 9 : Nat) : Int) = (N : Int) - 9 by omega] at this
    exact this
  clear hE
  have HX := Lib.hid hX
  have HXL := Lib.hid hXl
  clear e1 e2 hX hXl
  go_enter Try.func13, Try.ntmps13
  go_wp2_with (first | (go_at_call 25; (with_reducible refine (moves_ctx sum vert _).mono ?_); rintro e w1 ⟨bl, g, rfl, r1, r2, r3, r4⟩) | (go_at_call 21; ( refine (counted_ctx (v := 9) r1 r2 r3 rfl).mono ?_); rintro e w2 ⟨bv, ba, bm, rfl, q1, q2⟩; have H2 := (H.out.same r4).same q2) | (go_at_call 20; (with_reducible refine (collect_cnt H2 q1 (by omega)).mono ?_); rintro e w3 ⟨v', rfl, H3⟩; rw [← HX.out] at H3) | (go_at_call 12; (with_reducible refine (hesc _ _ H3).mono ?_); rintro e w4 ⟨ve, rfl, H4⟩; obtain ⟨ge, ce, rfl⟩ := sl_pos (H4.sl 0 rfl) hYl.1) | (at_builtin; refine wpList_append_hp rfl _ _ 22 rfl 27 i0 (bvl (0, 0)) 2 16 Try.underlying22 hi hz0 hz1 hz2 rfl (by decide) H4 1 at1 rfl ⟨ge, 0, none⟩ Y.length ce (bcs Y) rfl ?c0 ?c1 ?c2 ?c3 ?c4 ?_))
  case c0 => exact bcs_length _
  case c1 => intro j u hu; exact (addr_off0 ge j) ▸ H4.sl_at 0 rfl hu
  case c2 => exact bcs_one _
  case c3 => have := HXL.out; unfold maxLen; omega
  case c4 => have := HXL.out; omega
  intro v5 w5 H5
  try simp only [set1] at H5
  obtain ⟨sp5, cap5, rfl, _, _⟩ := H5.sl_form 1 at1
  go_wp2_with (first | (at_builtin; refine wpList_append_hp rfl _ _ 22 rfl 27 i0 (bvl (0, 0)) 2 16 Try.underlying22 hi hz0 hz1 hz2 rfl (by decide) (H5.lost _) 1 at1 rfl ⟨w5.heap.size, 0, none⟩ 1 1 (bcs [(-1, 0)]) rfl ?c0 ?c1 ?c2 ?c3 ?c4 ?_))
  case c0 => rfl
  case c1 => exact bin_new _ _ _ _
  case c2 => exact bcs_one _
  case c3 => have := HXL.out; unfold maxLen; omega
  case c4 => have := HXL.out; omega
  intro v6 w6 H6
  try simp only [set1] at H6
  go_wp2_with (fail)
  refine bodyPost_ret (results_tmp2 rfl _ _ _) rfl ⟨v6, rfl, ?_⟩
  have H7 := H6.tail
  rw [← bcs_append, ← bcs_append] at H7
  have e : X.length + Y.length + 1 = (X ++ Y ++ [(-1, 0)]).length := by simp; try omega
  rw [e, ← List.append_assoc] at H7
  exact H7

set_option maxHeartbeats 4000000 in
theorem mvd_ns (h : Hp W w L F) (v : Int) (N : Nat) (hv : v < 0) (hN : max v (-v) = (N : Int)) (hN2 : N ≤ 8192) (h9 : N < 9) (sum : Int) (vert : Bool) (hs : 0 ≤ sum) :
    Calls Try.prog 13 #[.int .i64 v, .int .i64 sum, .bool vert] w fun e w' => ∃ v', e = .returned (.tuple #[v', .int .i64 0]) ∧ Hp W w' (aBn v' (mvN N sum vert ++ sgB v) :: L) F := by
  have H := Lib.hid h
  clear h
  obtain ⟨i0, hi, hz0, hz1, hz2⟩ := bin_info
  have hM : min (N : Int) 9 = (N : Int) := by omega
  have e1 : mvN N sum vert = cntB (mvC sum vert) N (decide (((N : Nat) : Int) ≠ 9)) := by unfold mvN; rw [show min N 9 = N by omega, if_neg (by omega)]; simp
  have e2 : sgB v = [(-1, 1)] := by unfold sgB; rw [if_pos hv]
  obtain ⟨X, hX⟩ : ∃ X, X = cntB (mvC sum vert) N (decide (((N : Nat) : Int) ≠ 9)) := ⟨_, rfl⟩
  have hXl : X.length ≤ 10 := by rw [hX, cntB_length]; split <;> omega
  have v1 : -8192 ≤ v := by omega
  have v2 : v ≤ 8192 := by omega
  rw [e1, e2, ← hX]
  have HX := Lib.hid hX
  have HXL := Lib.hid hXl
  clear e1 e2 hX hXl
  go_enter Try.func13, Try.ntmps13
  go_wp2_with (first | (go_at_call 25; (with_reducible refine (moves_ctx sum vert _).mono ?_); rintro e w1 ⟨bl, g, rfl, r1, r2, r3, r4⟩) | (go_at_call 21; (with_reducible refine (counted_ctx r1 r2 r3 rfl).mono ?_); rintro e w2 ⟨bv, ba, bm, rfl, q1, q2⟩; have H2 := (H.out.same r4).same q2) | (go_at_call 20; (with_reducible refine (collect_cnt H2 q1 (by omega)).mono ?_); rintro e w3 ⟨v', rfl, H3⟩; rw [← HX.out] at H3) | (at_builtin; refine wpList_append_hp rfl _ _ 22 rfl 27 i0 (bvl (0, 0)) 2 16 Try.underlying22 hi hz0 hz1 hz2 rfl (by decide) (H3.lost _) 0 at0 rfl ⟨w3.heap.size, 0, none⟩ 1 1 (bcs [(-1, 1)]) rfl ?c0 ?c1 ?c2 ?c3 ?c4 ?_))
  case c0 => rfl
  case c1 => exact bin_new _ _ _ _
  case c2 => exact bcs_one _
  case c3 => have := HXL.out; unfold maxLen; omega
  case c4 => have := HXL.out; omega
  intro v6 w6 H6
  try simp only [set0] at H6
  go_wp2_with (fail)
  refine bodyPost_ret (results_tmp2 rfl _ _ _) rfl ⟨v6, rfl, ?_⟩
  rw [← bcs_append] at H6
  have e : X.length + 1 = (X ++ [(-1, 1)]).length := by simp
  rw [e] at H6
  exact H6

set_option maxHeartbeats 4000000 in
theorem mvd_nb (h : Hp W w L F) (v : Int) (N : Nat) (hv : v < 0) (hN : max v (-v) = (N : Int)) (hN2 : N ≤ 8192) (h9 : 9 ≤ N) (sum : Int) (vert : Bool) (hs : 0 ≤ sum) :
    Calls Try.prog 13 #[.int .i64 v, .int .i64 sum, .bool vert] w fun e w' => ∃ v', e = .returned (.tuple #[v', .int .i64 0]) ∧ Hp W w' (aBn v' (mvN N sum vert ++ sgB v) :: L) F := by
  have H := Lib.hid h
  clear h
  obtain ⟨i0, hi, hz0, hz1, hz2⟩ := bin_info
  have hM : min (N : Int) 9 = 9 := by omega
  have e1 : mvN N sum vert = cntB (mvC sum vert) 9 (decide (((9 : Nat) : Int) ≠ 9)) ++ escB (N - 9) 3 := by unfold mvN; rw [show min N 9 = 9 by omega, if_pos (by omega)]
  have e2 : sgB v = [(-1, 1)] := by unfold sgB; rw [if_pos hv]
  obtain ⟨X, hX⟩ : ∃ X, X = cntB (mvC sum vert) 9 (decide (((9 : Nat) : Int) ≠ 9)) := ⟨_, rfl⟩
  have hXl : X.length ≤ 10 := by rw [hX, cntB_length]; split <;> omega
  have v1 : -8192 ≤ v := by omega
  have v2 : v ≤ 8192 := by omega
  rw [e1, e2, ← hX]
  obtain ⟨Y, hY⟩ : ∃ Y, Y = escB (N - 9) 3 := ⟨_, rfl⟩
  have hYl : 0 < Y.length ∧ Y.length ≤ 200 := by rw [hY]; exact escB_len _ _ (by omega)
  have hE : escE (N - 9) 3 = 0 := escE_ok _ (by omega)
  rw [← hY]
  have HY := Lib.hid hY
  clear hY
  have hesc : ∀ (w : World) (L : List AObj), Hp W w L F → Calls Try.prog 12 #[.int .u64 ((N : Int) - 9), .int .i64 3] w fun e w' => ∃ v', e = .returned (.tuple #[v', .int .i64 0]) ∧ Hp W w' (aBn v' Y :: L) F := fun w L h => by
    have := escape_any h (N - 9) 3 (by omega)
    rw [hE, ← HY.out, show ((N - 9 : Nat) : Int) = (N : Int) - 9 by omega] at this
    exact this
  clear hE
  have HX := Lib.hid hX
  have HXL := Lib.hid hXl
  clear e1 e2 hX hXl
  go_enter Try.func13, Try.ntmps13
  go_wp2_with (first | (go_at_call 25; (with_reducible refine (moves_ctx sum vert _).mono ?_); rintro e w1 ⟨bl, g, rfl, r1, r2, r3, r4⟩) | (go_at_call 21; ( refine (counted_ctx (v := 9) r1 r2 r3 rfl).mono ?_); rintro e w2 ⟨bv, ba, bm, rfl, q1, q2⟩; have H2 := (H.out.same r4).same q2) | (go_at_call 20; (with_reducible refine (collect_cnt H2 q1 (by omega)).mono ?_); rintro e w3 ⟨v', rfl, H3⟩; rw [← HX.out] at H3) | (go_at_call 12; (with_reducible refine (hesc _ _ H3).mono ?_); rintro e w4 ⟨ve, rfl, H4⟩; obtain ⟨ge, ce, rfl⟩ := sl_pos (H4.sl 0 rfl) hYl.1) | (at_builtin; refine wpList_append_hp rfl _ _ 22 rfl 27 i0 (bvl (0, 0)) 2 16 Try.underlying22 hi hz0 hz1 hz2 rfl (by decide) H4 1 at1 rfl ⟨ge, 0, none⟩ Y.length ce (bcs Y) rfl ?c0 ?c1 ?c2 ?c3 ?c4 ?_))
  case c0 => exact bcs_length _
  case c1 => intro j u hu; exact (addr_off0 ge j) ▸ H4.sl_at 0 rfl hu
  case c2 => exact bcs_one _
  case c3 => have := HXL.out; unfold maxLen; omega
  case c4 => have := HXL.out; omega
  intro v5 w5 H5
  try simp only [set1] at H5
  obtain ⟨sp5, cap5, rfl, _, _⟩ := H5.sl_form 1 at1
  go_wp2_with (first | (at_builtin; refine wpList_append_hp rfl _ _ 22 rfl 27 i0 (bvl (0, 0)) 2 16 Try.underlying22 hi hz0 hz1 hz2 rfl (by decide) (H5.lost _) 1 at1 rfl ⟨w5.heap.size, 0, none⟩ 1 1 (bcs [(-1, 1)]) rfl ?c0 ?c1 ?c2 ?c3 ?c4 ?_))
  case c0 => rfl
  case c1 => exact bin_new _ _ _ _
  case c2 => exact bcs_one _
  case c3 => have := HXL.out; unfold maxLen; omega
  case c4 => have := HXL.out; omega
  intro v6 w6 H6
  try simp only [set1] at H6
  go_wp2_with (fail)
  refine bodyPost_ret (results_tmp2 rfl _ _ _) rfl ⟨v6, rfl, ?_⟩
  have H7 := H6.tail
  rw [← bcs_append, ← bcs_append] at H7
  have e : X.length + Y.length + 1 = (X ++ Y ++ [(-1, 1)]).length := by simp; try omega
  rw [e, ← List.append_assoc] at H7
  exact H7

theorem mvd_any (h : Hp W w L F) (v sum : Int) (vert : Bool) :
    Calls Try.prog 13 #[.int .i64 v, .int .i64 sum, .bool vert] w fun e w' => ∃ v', e = .returned (.tuple #[v', .int .i64 (mvE v sum)]) ∧ Hp W w' (aBn v' (mvB v sum vert) :: L) F := by
  by_cases hE : mvE v sum = 0
  · have hB : mvB v sum vert = mvN v.natAbs sum vert ++ sgB v := if_pos hE
    have hc : 0 ≤ sum ∧ -8192 ≤ v ∧ v ≤ 8192 := by unfold mvE at hE; split at hE <;> first | assumption | omega
    rw [hB, hE]
    obtain ⟨N, hN⟩ : ∃ N, N = v.natAbs := ⟨_, rfl⟩
    rw [← hN]
    have hm : max v (-v) = (N : Int) := by omega
    rcases Int.lt_trichotomy v 0 with h1 | h1 | h1
    · by_cases h9 : N < 9
      · exact mvd_ns h v N h1 hm (by omega) h9 sum vert hc.1
      · exact mvd_nb h v N h1 hm (by omega) (by omega) sum vert hc.1
    · subst h1
      obtain rfl : N = 0 := by omega
      exact mvd_zero h sum vert hc.1
    · by_cases h9 : N < 9
      · exact mvd_ps h v N h1 hm (by omega) h9 sum vert hc.1
      · exact mvd_pb h v N h1 hm (by omega) (by omega) sum vert hc.1
  · have hB : mvB v sum vert = [] := if_neg hE
    have h3 : mvE v sum = 3 := by
      by_cases c : 0 ≤ sum ∧ -8192 ≤ v ∧ v ≤ 8192
      · exact absurd (if_pos c) hE
      · exact if_neg c
    refine (mvd_bad h v sum vert hE).mono ?_
    rintro e w' ⟨rfl, h'⟩
    rw [hB, h3]
    exact ⟨_, rfl, h'.sl_nil _ _⟩

def qpE (v inc : Int) : Int := if 0 ≤ inc ∧ inc ≤ 1 ∧ -26 ≤ v ∧ v ≤ 25 then 0 else 3
def qpN (v : Int) : Nat := if 0 < v then (2 * v - 1).toNat else (-2 * v).toNat
def qpB (v inc : Int) : List (Int × Int) := if qpE v inc = 0 then unB (qpN v) (62 + inc) 64 65 else []
set_option maxHeartbeats 2000000 in
theorem qp_any (h : Hp W w L F) (v inc : Int) :
    Calls Try.prog 32 #[.int .i64 v, .int .i64 inc] w fun e w' => ∃ v', e = .returned (.tuple #[v', .int .i64 (qpE v inc)]) ∧ Hp W w' (aBn v' (qpB v inc) :: L) F := by
  have H := Lib.hid h
  clear h
  by_cases h1 : 0 ≤ inc ∧ inc ≤ 1
  · obtain ⟨h1, h2⟩ := h1
    by_cases h3 : -26 ≤ v ∧ v ≤ 25
    · obtain ⟨h3, h4⟩ := h3
      have e1 : qpE v inc = 0 := if_pos ⟨h1, h2, h3, h4⟩
      have e2 : qpB v inc = unB (qpN v) (62 + inc) 64 65 := if_pos e1
      have e3 : unE (qpN v) (62 + inc) 64 65 = 0 := by
        refine if_pos ⟨by omega, by unfold qpN; split <;> omega, ?_⟩
        simp only [List.all_cons, List.all_nil, okc, Bool.and_true]
        rw [decide_eq_true (show -1 ≤ 62 + inc by omega), decide_eq_true (show 62 + inc < 286 by omega)]
        rfl
      have e4 : (qpN v : Int) = if 0 < v then 2 * v - 1 else -2 * v := by unfold qpN; split <;> omega
      rw [e1, e2]
      obtain ⟨n, hn⟩ : ∃ n : Int, n = (qpN v : Int) := ⟨_, rfl⟩
      rw [← hn] at e3 e4 ⊢
      obtain ⟨X, hX⟩ : ∃ X, X = unB n (62 + inc) 64 65 := ⟨_, rfl⟩
      have hu : ∀ (w : World) (N I : Int), Hp W w L F → N = n → I = 62 + inc → Calls Try.prog 11 #[.int .i64 N, .int .i64 I, .int .i64 64, .int .i64 65] w fun e w' => ∃ v', e = .returned (.tuple #[v', .int .i64 0]) ∧ Hp W w' (aBn v' X :: L) F := fun w N I h eN eI => by
        subst eN eI
        have := unary_any h N (62 + inc) 64 65 (by split at e4 <;> omega) (by split at e4 <;> omega)
        rw [e3, ← hX] at this
        exact this
      rw [← hX]
      have E4 := Lib.hid e4
      clear e1 e2 e3 hn e4 hX
      by_cases h5 : 0 < v
      · have e5 := E4.out
        rw [if_pos h5] at e5
        have E5 := Lib.hid e5
        clear e5
        go_enter Try.func32, Try.ntmps32
        go_wp2_with (first | (go_at_call 11; (with_reducible refine (hu _ _ _ H.out E5.out.symm rfl).mono ?_); rintro e w1 ⟨v', rfl, H1⟩))
        exact bodyPost_ret (results_tmp2 rfl _ _ _) rfl ⟨v', rfl, H1⟩
      · have e5 := E4.out
        rw [if_neg h5] at e5
        have E5 := Lib.hid e5
        clear e5
        go_enter Try.func32, Try.ntmps32
        go_wp2_with (first | (go_at_call 11; (with_reducible refine (hu _ _ _ H.out E5.out.symm rfl).mono ?_); rintro e w1 ⟨v', rfl, H1⟩))
        exact bodyPost_ret (results_tmp2 rfl _ _ _) rfl ⟨v', rfl, H1⟩
    · have e1 : qpE v inc = 3 := if_neg (fun h => h3 h.2.2)
      have e2 : qpB v inc = [] := by unfold qpB; rw [e1]; rfl
      rw [e1, e2]
      clear e1 e2
      by_cases h4 : v < -26
      · clear h3
        go_enter Try.func32, Try.ntmps32
        go_wp2_with (fail)
        exact bodyPost_ret (results_tmp2 rfl _ _ _) rfl ⟨.slice none 0 0, rfl, H.out.sl_nil _ _⟩
      · have h5 : 25 < v := by omega
        clear h3
        go_enter Try.func32, Try.ntmps32
        go_wp2_with (fail)
        exact bodyPost_ret (results_tmp2 rfl _ _ _) rfl ⟨.slice none 0 0, rfl, H.out.sl_nil _ _⟩
  · have e1 : qpE v inc = 3 := if_neg (fun h => h1 ⟨h.1, h.2.1⟩)
    have e2 : qpB v inc = [] := by unfold qpB; rw [e1]; rfl
    rw [e1, e2]
    clear e1 e2
    by_cases h4 : inc < 0
    · clear h1
      go_enter Try.func32, Try.ntmps32
      go_wp2_with (fail)
      exact bodyPost_ret (results_tmp2 rfl _ _ _) rfl ⟨.slice none 0 0, rfl, H.out.sl_nil _ _⟩
    · have h5 : 1 < inc := by omega
      clear h1
      go_enter Try.func32, Try.ntmps32
      go_wp2_with (fail)
      exact bodyPost_ret (results_tmp2 rfl _ _ _) rfl ⟨.slice none 0 0, rfl, H.out.sl_nil _ _⟩

end

end Go.Proofs.Ytnefiaghojojgaa
