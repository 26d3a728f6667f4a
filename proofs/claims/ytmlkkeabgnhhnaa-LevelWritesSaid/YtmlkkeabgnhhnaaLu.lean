/- The program's Put. -/
import Derived.Test.YtmlkkeabgnhhnaaLn
namespace Go.Proofs.Ytmlkkeabgnhhnaa
open Go.RowKit
set_option linter.unusedVariables false
set_option maxRecDepth 100000
set_option linter.unusedSimpArgs false

def lpB (B : List Bool) (K l sk : Nat) (v : Int) : List Bool := if lpE K l sk v = 0 then B ++ lcode K (lnum v - sk) else B
def lpK (K l sk : Nat) (v : Int) : Nat := if lpE K l sk v = 0 then nxt K v.natAbs else K
def lpL (K l sk : Nat) (v : Int) : Nat := if lpE K l sk v = 0 then l - 1 else l
def lpS (K l sk : Nat) (v : Int) : Nat := if lpE K l sk v = 0 then 0 else sk
theorem lput_same {L : List AObj} {k j b b' K l sk : Nat} {B : List Bool} {v x : Int} (hk : L[k]? = some (aCo b K l sk)) (hj : L[j]? = some (aWr b' B)) (he : lpE K l sk v = x) (hx : x ≠ 0) :
    (L.set j (aWr b' (lpB B K l sk v))).set k (aCo b (lpK K l sk v) (lpL K l sk v) (lpS K l sk v)) = L := by
  have e1 : lpB B K l sk v = B := if_neg (by rw [he]; exact hx)
  have e2 : lpK K l sk v = K := if_neg (by rw [he]; exact hx)
  have e3 : lpL K l sk v = l := if_neg (by rw [he]; exact hx)
  have e4 : lpS K l sk v = sk := if_neg (by rw [he]; exact hx)
  rw [e1, e2, e3, e4, set_same hj, set_same hk]
theorem split_as {K : Nat} (hK : K ≤ 6) (c : Nat) (hc : c ≤ 2 ^ 40) {x : Int} (hx : x = (c : Int)) (w : World) :
    Calls Try.prog 41 #[.int .i64 K, .int .i64 x] w fun e w' => e = .returned (.tuple #[.int .i64 (cP K c), .int .i64 (cV K c), .int .i64 (cN K c)]) ∧ ∃ n, w' = w.drewN n := by
  subst hx
  exact split_any hK c hc w

set_option maxHeartbeats 8000000 in
theorem lput_any {W w : World} {L : List AObj} {F : List (Nat × Obj)} {b b' K l sk : Nat} {B : List Bool} (h : Hp W w L F) (k j : Nat) (hkj : k ≠ j) (hk : L[k]? = some (aCo b K l sk)) (hj : L[j]? = some (aWr b' B)) (hK : K ≤ 6) (hl : l ≤ 16) (hsk : sk = 0 ∨ sk = 2) (hB : B.length ≤ 2 ^ 39) (v : Int) (hv1 : -9223372036854775808 ≤ v) (hv2 : v < 9223372036854775808) :
    Calls Try.prog 15 #[.pointer (some ⟨b, 0, none⟩), .pointer (some ⟨b', 0, none⟩), .int .i64 v] w fun e w' => e = .returned (.int .i64 (lpE K l sk v)) ∧ Hp W w' ((L.set j (aWr b' (lpB B K l sk v))).set k (aCo b (lpK K l sk v) (lpL K l sk v) (lpS K l sk v))) F := by
  obtain ⟨c0, c1, c2, f0, f1, f2⟩ := aCo_cells h k hk
  have hsk2 : sk ≤ 2 := by omega
  have hB40 : B.length ≤ 2 ^ 40 := by omega
  have hesc := esc_le K hK
  have hmst : mst K = esc K + 4095 := rfl
  have HJ := Lib.hid hj
  have HK := Lib.hid hk
  have H := Lib.hid h
  clear hj hk h
  cases l with
  | zero =>
    have hE : lpE K 0 sk v = 8 := rfl
    rw [hE, lput_same HK.out HJ.out hE (by decide)]
    clear hE hsk
    go_enter Try.func15, Try.ntmps15
    go_wp2_with (fail)
    exact bodyPost_ret (results_tmp rfl _ _ _) rfl ⟨rfl, H.out⟩
  | succ l =>
    have hl16 : l ≤ 16 := by omega
    have hl0 : (((l : Int) + 1) == 0) = false := by simp; omega
    by_cases hz : v = 0
    · subst hz
      have hE : lpE K (l + 1) sk 0 = 2 := by unfold lpE; rw [if_neg (by omega), if_pos (Or.inl rfl)]
      rw [hE, lput_same HK.out HJ.out hE (by decide)]
      clear hE hsk
      go_enter Try.func15, Try.ntmps15
      go_wp2_with (fail)
      exact bodyPost_ret (results_tmp rfl _ _ _) rfl ⟨rfl, H.out⟩
    · by_cases hmin : v = -9223372036854775808
      · subst hmin
        have hE : lpE K (l + 1) sk (-9223372036854775808) = 12 := by unfold lpE; rw [if_neg (by omega), if_neg (by rintro (h | ⟨_, h⟩) <;> simp at h), if_pos (by unfold lnum; simp; omega)]
        rw [hE, lput_same HK.out HJ.out hE (by decide)]
        clear hE
        have hw : IntKind.i64.wrap 9223372036854775808 = -9223372036854775808 := by decide
        rcases hsk with rfl | rfl
        all_goals
          go_enter Try.func15, Try.ntmps15
          go_wp2_with (fail)
          exact bodyPost_ret (results_tmp rfl _ _ _) rfl ⟨rfl, H.out⟩
      · obtain ⟨m, hm⟩ : ∃ m, m = v.natAbs := ⟨_, rfl⟩
        have hm1 : 1 ≤ m := by omega
        have hm63 : m ≤ 9223372036854775807 := by omega
        rcases hsk with rfl | rfl
        · rcases Int.lt_or_le v 0 with hs | hs
          · obtain rfl : v = -(m : Int) := by omega
            clear hm hz hmin
            have hv0 : ((-(m : Int)) == 0) = false := by simp <;> omega
            have hn : lnum (-(m : Int)) = 2 * (m - 1) + 1 := by unfold lnum; simp <;> omega
            have hna : ((-(m : Int))).natAbs = m := by omega
            by_cases hq : mst K + 0 < lnum (-(m : Int))
            · have hE : lpE K (l + 1) 0 (-(m : Int)) = 12 := by unfold lpE; rw [if_neg (by omega), if_neg (by omega), if_pos hq]
              rw [hE, lput_same HK.out HJ.out hE (by decide)]
              rw [hn] at hq
              clear hE hna hn
              by_cases hM : (mst K + 0) / 2 + 1 < m
              · have d1 : decide (lmost K (l + 1) 0 < m) = true := by unfold lmost; rw [if_neg (by omega)]; simp; omega
                go_enter Try.func15, Try.ntmps15
                go_wp2_with (first | (go_at_call 19; (with_reducible refine (most_any H.out k HK.out hK hsk2).mono ?_); rintro e w1 ⟨rfl, h1⟩; obtain ⟨e0, e1, e2, g0, g1, g2⟩ := aCo_cells h1 k HK.out) | (go_at_call 40; (with_reducible refine (lmost_any hK _).mono ?_); rintro e w2 ⟨rfl, rfl⟩))
                exact bodyPost_ret (results_tmp rfl _ _ _) rfl ⟨rfl, h1⟩
              · have d1 : decide (lmost K (l + 1) 0 < m) = false := by unfold lmost; rw [if_neg (by omega)]; simp; omega
                have hM2 := hM
                have hm6 : m ≤ 6000 := by omega
                go_enter Try.func15, Try.ntmps15
                go_wp2_with (first | (go_at_call 19; (with_reducible refine (most_any H.out k HK.out hK hsk2).mono ?_); rintro e w1 ⟨rfl, h1⟩; obtain ⟨e0, e1, e2, g0, g1, g2⟩ := aCo_cells h1 k HK.out) | (go_at_call 40; (with_reducible refine (lmost_any hK _).mono ?_); rintro e w2 ⟨rfl, rfl⟩))
                exact bodyPost_ret (results_tmp rfl _ _ _) rfl ⟨rfl, h1⟩
            · have hE : lpE K (l + 1) 0 (-(m : Int)) = 0 := by unfold lpE; rw [if_neg (by omega), if_neg (by omega), if_neg hq]
              have d1 : decide (lmost K (l + 1) 0 < m) = false := by unfold lmost; rw [if_neg (by omega)]; simp; omega
              have e1 : lpB B K (l + 1) 0 (-(m : Int)) = B ++ lcode K (lnum (-(m : Int)) - 0) := if_pos hE
              have e2 : lpK K (l + 1) 0 (-(m : Int)) = nxt K m := by unfold lpK; rw [if_pos hE, hna]
              have e3 : lpL K (l + 1) 0 (-(m : Int)) = l := by unfold lpL; rw [if_pos hE]; omega
              have e4 : lpS K (l + 1) 0 (-(m : Int)) = 0 := if_pos hE
              rw [hE, e1, e2, e3, e4]
              have hm6 : m ≤ 6000 := by omega
              rw [hn] at hq ⊢
              obtain ⟨c, hc⟩ : ∃ c, c = 2 * (m - 1) + 1 - 0 := ⟨_, rfl⟩
              rw [← hc]
              have hcm : c ≤ mst K := by omega
              obtain ⟨o1, o2, o3, o4⟩ := code_ok hK hcm
              have P1 := Lib.hid (put_fit (B := B) (N := cP K c + 1) (V := 1) (by omega) (Nat.one_lt_two_pow (by omega)))
              have P2 := Lib.hid (put_fit (B := B ++ bitsN (cP K c + 1) 1) (N := cN K c) (V := cV K c) (by omega) o2)
              have hB41 : (B ++ bitsN (cP K c + 1) 1).length ≤ 2 ^ 40 := by rw [List.length_append, bitsN_length]; omega
              have HC := Lib.hid hc
              have HK2 := Lib.hid (show (L.set j (aWr b' (B ++ bitsN (cP K c + 1) 1 ++ bitsN (cN K c) (cV K c))))[k]? = some (aCo b K (l + 1) 0) by rw [List.getElem?_set_ne (fun h => hkj h.symm)]; exact HK.out)
              have HN := Lib.hid hna
              clear hc hE e1 e2 e3 e4 hn hna o2
              unfold lcode
              rw [← List.append_assoc]
              go_enter Try.func15, Try.ntmps15
              go_wp2_with (first | (go_at_call 19; (with_reducible refine (most_any H.out k HK.out hK hsk2).mono ?_); rintro e w1 ⟨rfl, h1⟩; obtain ⟨e0, e1, e2, g0, g1, g2⟩ := aCo_cells h1 k HK.out) | (go_at_call 40; (with_reducible refine (lmost_any hK _).mono ?_); rintro e w2 ⟨rfl, rfl⟩) | (go_at_call 41; (with_reducible refine (split_as hK c (by omega) (by have := HC.out; omega) _).mono ?_); rintro e w3 ⟨rfl, n3, rfl⟩) | (go_at_call 42; (with_reducible refine (put_as (h1.drewN n3) j HJ.out hB40 _ _ (by decide) (by decide) P1.out).mono ?_); rintro e w4 ⟨rfl, h4⟩; clear h1) | (go_at_call 42; (with_reducible refine (put_as h4 j (set_at HJ.out _) hB41 _ _ (by omega) (by omega) P2.out).mono ?_); rintro e w5 ⟨rfl, h5⟩; clear h4; rw [set_set] at h5) | (go_at_call 43; (with_reducible refine (next_any h5 k HK2.out hK _ (by omega) hl16).mono ?_); rintro e w6 ⟨rfl, h6⟩; clear h5; rw [HN.out] at h6))
              exact bodyPost_ret (results_tmp rfl _ _ _) rfl ⟨rfl, h6⟩
          · obtain rfl : v = (m : Int) := by omega
            clear hm hz hmin hs hv1 hv2
            have hv0 : ((m : Int) == 0) = false := by simp <;> omega
            have hn : lnum (m : Int) = 2 * (m - 1) := by unfold lnum; simp <;> omega
            have hna : ((m : Int)).natAbs = m := by omega
            by_cases hq : mst K + 0 < lnum (m : Int)
            · have hE : lpE K (l + 1) 0 (m : Int) = 12 := by unfold lpE; rw [if_neg (by omega), if_neg (by omega), if_pos hq]
              rw [hE, lput_same HK.out HJ.out hE (by decide)]
              rw [hn] at hq
              clear hE hna hn
              by_cases hM : (mst K + 0) / 2 + 1 < m
              · have d1 : decide (lmost K (l + 1) 0 < m) = true := by unfold lmost; rw [if_neg (by omega)]; simp; omega
                go_enter Try.func15, Try.ntmps15
                go_wp2_with (first | (go_at_call 19; (with_reducible refine (most_any H.out k HK.out hK hsk2).mono ?_); rintro e w1 ⟨rfl, h1⟩; obtain ⟨e0, e1, e2, g0, g1, g2⟩ := aCo_cells h1 k HK.out) | (go_at_call 40; (with_reducible refine (lmost_any hK _).mono ?_); rintro e w2 ⟨rfl, rfl⟩))
                exact bodyPost_ret (results_tmp rfl _ _ _) rfl ⟨rfl, h1⟩
              · have d1 : decide (lmost K (l + 1) 0 < m) = false := by unfold lmost; rw [if_neg (by omega)]; simp; omega
                have hM2 := hM
                have hm6 : m ≤ 6000 := by omega
                omega
            · have hE : lpE K (l + 1) 0 (m : Int) = 0 := by unfold lpE; rw [if_neg (by omega), if_neg (by omega), if_neg hq]
              have d1 : decide (lmost K (l + 1) 0 < m) = false := by unfold lmost; rw [if_neg (by omega)]; simp; omega
              have e1 : lpB B K (l + 1) 0 (m : Int) = B ++ lcode K (lnum (m : Int) - 0) := if_pos hE
              have e2 : lpK K (l + 1) 0 (m : Int) = nxt K m := by unfold lpK; rw [if_pos hE, hna]
              have e3 : lpL K (l + 1) 0 (m : Int) = l := by unfold lpL; rw [if_pos hE]; omega
              have e4 : lpS K (l + 1) 0 (m : Int) = 0 := if_pos hE
              rw [hE, e1, e2, e3, e4]
              have hm6 : m ≤ 6000 := by omega
              rw [hn] at hq ⊢
              obtain ⟨c, hc⟩ : ∃ c, c = 2 * (m - 1) - 0 := ⟨_, rfl⟩
              rw [← hc]
              have hcm : c ≤ mst K := by omega
              obtain ⟨o1, o2, o3, o4⟩ := code_ok hK hcm
              have P1 := Lib.hid (put_fit (B := B) (N := cP K c + 1) (V := 1) (by omega) (Nat.one_lt_two_pow (by omega)))
              have P2 := Lib.hid (put_fit (B := B ++ bitsN (cP K c + 1) 1) (N := cN K c) (V := cV K c) (by omega) o2)
              have hB41 : (B ++ bitsN (cP K c + 1) 1).length ≤ 2 ^ 40 := by rw [List.length_append, bitsN_length]; omega
              have HC := Lib.hid hc
              have HK2 := Lib.hid (show (L.set j (aWr b' (B ++ bitsN (cP K c + 1) 1 ++ bitsN (cN K c) (cV K c))))[k]? = some (aCo b K (l + 1) 0) by rw [List.getElem?_set_ne (fun h => hkj h.symm)]; exact HK.out)
              have HN := Lib.hid hna
              clear hc hE e1 e2 e3 e4 hn hna o2
              unfold lcode
              rw [← List.append_assoc]
              go_enter Try.func15, Try.ntmps15
              go_wp2_with (first | (go_at_call 19; (with_reducible refine (most_any H.out k HK.out hK hsk2).mono ?_); rintro e w1 ⟨rfl, h1⟩; obtain ⟨e0, e1, e2, g0, g1, g2⟩ := aCo_cells h1 k HK.out) | (go_at_call 40; (with_reducible refine (lmost_any hK _).mono ?_); rintro e w2 ⟨rfl, rfl⟩) | (go_at_call 41; (with_reducible refine (split_as hK c (by omega) (by have := HC.out; omega) _).mono ?_); rintro e w3 ⟨rfl, n3, rfl⟩) | (go_at_call 42; (with_reducible refine (put_as (h1.drewN n3) j HJ.out hB40 _ _ (by decide) (by decide) P1.out).mono ?_); rintro e w4 ⟨rfl, h4⟩; clear h1) | (go_at_call 42; (with_reducible refine (put_as h4 j (set_at HJ.out _) hB41 _ _ (by omega) (by omega) P2.out).mono ?_); rintro e w5 ⟨rfl, h5⟩; clear h4; rw [set_set] at h5) | (go_at_call 43; (with_reducible refine (next_any h5 k HK2.out hK _ (by omega) hl16).mono ?_); rintro e w6 ⟨rfl, h6⟩; clear h5; rw [HN.out] at h6))
              exact bodyPost_ret (results_tmp rfl _ _ _) rfl ⟨rfl, h6⟩
        · by_cases h1 : m = 1
          · have hE : lpE K (l + 1) 2 v = 2 := by unfold lpE; rw [if_neg (by omega), if_pos (Or.inr ⟨by omega, by omega⟩)]
            rw [hE, lput_same HK.out HJ.out hE (by decide)]
            clear hE
            have : v = 1 ∨ v = -1 := by omega
            clear hz hmin hm
            rcases this with rfl | rfl
            all_goals
              go_enter Try.func15, Try.ntmps15
              go_wp2_with (fail)
              exact bodyPost_ret (results_tmp rfl _ _ _) rfl ⟨rfl, H.out⟩
          · have hm2 : 2 ≤ m := by omega
            rcases Int.lt_or_le v 0 with hs | hs
            · obtain rfl : v = -(m : Int) := by omega
              clear hm hz hmin
              have hv0 : ((-(m : Int)) == 0) = false := by simp <;> omega
              have hv1 : ((-(m : Int)) == 1) = false := by simp <;> omega
              have hv2 : ((-(m : Int)) == -1) = false := by simp <;> omega
              have hn : lnum (-(m : Int)) = 2 * (m - 1) + 1 := by unfold lnum; simp <;> omega
              have hna : ((-(m : Int))).natAbs = m := by omega
              by_cases hq : mst K + 2 < lnum (-(m : Int))
              · have hE : lpE K (l + 1) 2 (-(m : Int)) = 12 := by unfold lpE; rw [if_neg (by omega), if_neg (by omega), if_pos hq]
                rw [hE, lput_same HK.out HJ.out hE (by decide)]
                rw [hn] at hq
                clear hE hna hn
                by_cases hM : (mst K + 2) / 2 + 1 < m
                · have d1 : decide (lmost K (l + 1) 2 < m) = true := by unfold lmost; rw [if_neg (by omega)]; simp; omega
                  go_enter Try.func15, Try.ntmps15
                  go_wp2_with (first | (go_at_call 19; (with_reducible refine (most_any H.out k HK.out hK hsk2).mono ?_); rintro e w1 ⟨rfl, h1⟩; obtain ⟨e0, e1, e2, g0, g1, g2⟩ := aCo_cells h1 k HK.out) | (go_at_call 40; (with_reducible refine (lmost_any hK _).mono ?_); rintro e w2 ⟨rfl, rfl⟩))
                  exact bodyPost_ret (results_tmp rfl _ _ _) rfl ⟨rfl, h1⟩
                · have d1 : decide (lmost K (l + 1) 2 < m) = false := by unfold lmost; rw [if_neg (by omega)]; simp; omega
                  have hM2 := hM
                  have hm6 : m ≤ 6000 := by omega
                  go_enter Try.func15, Try.ntmps15
                  go_wp2_with (first | (go_at_call 19; (with_reducible refine (most_any H.out k HK.out hK hsk2).mono ?_); rintro e w1 ⟨rfl, h1⟩; obtain ⟨e0, e1, e2, g0, g1, g2⟩ := aCo_cells h1 k HK.out) | (go_at_call 40; (with_reducible refine (lmost_any hK _).mono ?_); rintro e w2 ⟨rfl, rfl⟩))
                  exact bodyPost_ret (results_tmp rfl _ _ _) rfl ⟨rfl, h1⟩
              · have hE : lpE K (l + 1) 2 (-(m : Int)) = 0 := by unfold lpE; rw [if_neg (by omega), if_neg (by omega), if_neg hq]
                have d1 : decide (lmost K (l + 1) 2 < m) = false := by unfold lmost; rw [if_neg (by omega)]; simp; omega
                have e1 : lpB B K (l + 1) 2 (-(m : Int)) = B ++ lcode K (lnum (-(m : Int)) - 2) := if_pos hE
                have e2 : lpK K (l + 1) 2 (-(m : Int)) = nxt K m := by unfold lpK; rw [if_pos hE, hna]
                have e3 : lpL K (l + 1) 2 (-(m : Int)) = l := by unfold lpL; rw [if_pos hE]; omega
                have e4 : lpS K (l + 1) 2 (-(m : Int)) = 0 := if_pos hE
                rw [hE, e1, e2, e3, e4]
                have hm6 : m ≤ 6000 := by omega
                rw [hn] at hq ⊢
                obtain ⟨c, hc⟩ : ∃ c, c = 2 * (m - 1) + 1 - 2 := ⟨_, rfl⟩
                rw [← hc]
                have hcm : c ≤ mst K := by omega
                obtain ⟨o1, o2, o3, o4⟩ := code_ok hK hcm
                have P1 := Lib.hid (put_fit (B := B) (N := cP K c + 1) (V := 1) (by omega) (Nat.one_lt_two_pow (by omega)))
                have P2 := Lib.hid (put_fit (B := B ++ bitsN (cP K c + 1) 1) (N := cN K c) (V := cV K c) (by omega) o2)
                have hB41 : (B ++ bitsN (cP K c + 1) 1).length ≤ 2 ^ 40 := by rw [List.length_append, bitsN_length]; omega
                have HC := Lib.hid hc
                have HK2 := Lib.hid (show (L.set j (aWr b' (B ++ bitsN (cP K c + 1) 1 ++ bitsN (cN K c) (cV K c))))[k]? = some (aCo b K (l + 1) 2) by rw [List.getElem?_set_ne (fun h => hkj h.symm)]; exact HK.out)
                have HN := Lib.hid hna
                clear hc hE e1 e2 e3 e4 hn hna o2
                unfold lcode
                rw [← List.append_assoc]
                go_enter Try.func15, Try.ntmps15
                go_wp2_with (first | (go_at_call 19; (with_reducible refine (most_any H.out k HK.out hK hsk2).mono ?_); rintro e w1 ⟨rfl, h1⟩; obtain ⟨e0, e1, e2, g0, g1, g2⟩ := aCo_cells h1 k HK.out) | (go_at_call 40; (with_reducible refine (lmost_any hK _).mono ?_); rintro e w2 ⟨rfl, rfl⟩) | (go_at_call 41; (with_reducible refine (split_as hK c (by omega) (by have := HC.out; omega) _).mono ?_); rintro e w3 ⟨rfl, n3, rfl⟩) | (go_at_call 42; (with_reducible refine (put_as (h1.drewN n3) j HJ.out hB40 _ _ (by decide) (by decide) P1.out).mono ?_); rintro e w4 ⟨rfl, h4⟩; clear h1) | (go_at_call 42; (with_reducible refine (put_as h4 j (set_at HJ.out _) hB41 _ _ (by omega) (by omega) P2.out).mono ?_); rintro e w5 ⟨rfl, h5⟩; clear h4; rw [set_set] at h5) | (go_at_call 43; (with_reducible refine (next_any h5 k HK2.out hK _ (by omega) hl16).mono ?_); rintro e w6 ⟨rfl, h6⟩; clear h5; rw [HN.out] at h6))
                exact bodyPost_ret (results_tmp rfl _ _ _) rfl ⟨rfl, h6⟩
            · obtain rfl : v = (m : Int) := by omega
              clear hm hz hmin hs hv1 hv2
              have hv0 : ((m : Int) == 0) = false := by simp <;> omega
              have hv1 : ((m : Int) == 1) = false := by simp <;> omega
              have hv2 : ((m : Int) == -1) = false := by simp <;> omega
              have hn : lnum (m : Int) = 2 * (m - 1) := by unfold lnum; simp <;> omega
              have hna : ((m : Int)).natAbs = m := by omega
              by_cases hq : mst K + 2 < lnum (m : Int)
              · have hE : lpE K (l + 1) 2 (m : Int) = 12 := by unfold lpE; rw [if_neg (by omega), if_neg (by omega), if_pos hq]
                rw [hE, lput_same HK.out HJ.out hE (by decide)]
                rw [hn] at hq
                clear hE hna hn
                by_cases hM : (mst K + 2) / 2 + 1 < m
                · have d1 : decide (lmost K (l + 1) 2 < m) = true := by unfold lmost; rw [if_neg (by omega)]; simp; omega
                  go_enter Try.func15, Try.ntmps15
                  go_wp2_with (first | (go_at_call 19; (with_reducible refine (most_any H.out k HK.out hK hsk2).mono ?_); rintro e w1 ⟨rfl, h1⟩; obtain ⟨e0, e1, e2, g0, g1, g2⟩ := aCo_cells h1 k HK.out) | (go_at_call 40; (with_reducible refine (lmost_any hK _).mono ?_); rintro e w2 ⟨rfl, rfl⟩))
                  exact bodyPost_ret (results_tmp rfl _ _ _) rfl ⟨rfl, h1⟩
                · have d1 : decide (lmost K (l + 1) 2 < m) = false := by unfold lmost; rw [if_neg (by omega)]; simp; omega
                  have hM2 := hM
                  have hm6 : m ≤ 6000 := by omega
                  omega
              · have hE : lpE K (l + 1) 2 (m : Int) = 0 := by unfold lpE; rw [if_neg (by omega), if_neg (by omega), if_neg hq]
                have d1 : decide (lmost K (l + 1) 2 < m) = false := by unfold lmost; rw [if_neg (by omega)]; simp; omega
                have e1 : lpB B K (l + 1) 2 (m : Int) = B ++ lcode K (lnum (m : Int) - 2) := if_pos hE
                have e2 : lpK K (l + 1) 2 (m : Int) = nxt K m := by unfold lpK; rw [if_pos hE, hna]
                have e3 : lpL K (l + 1) 2 (m : Int) = l := by unfold lpL; rw [if_pos hE]; omega
                have e4 : lpS K (l + 1) 2 (m : Int) = 0 := if_pos hE
                rw [hE, e1, e2, e3, e4]
                have hm6 : m ≤ 6000 := by omega
                rw [hn] at hq ⊢
                obtain ⟨c, hc⟩ : ∃ c, c = 2 * (m - 1) - 2 := ⟨_, rfl⟩
                rw [← hc]
                have hcm : c ≤ mst K := by omega
                obtain ⟨o1, o2, o3, o4⟩ := code_ok hK hcm
                have P1 := Lib.hid (put_fit (B := B) (N := cP K c + 1) (V := 1) (by omega) (Nat.one_lt_two_pow (by omega)))
                have P2 := Lib.hid (put_fit (B := B ++ bitsN (cP K c + 1) 1) (N := cN K c) (V := cV K c) (by omega) o2)
                have hB41 : (B ++ bitsN (cP K c + 1) 1).length ≤ 2 ^ 40 := by rw [List.length_append, bitsN_length]; omega
                have HC := Lib.hid hc
                have HK2 := Lib.hid (show (L.set j (aWr b' (B ++ bitsN (cP K c + 1) 1 ++ bitsN (cN K c) (cV K c))))[k]? = some (aCo b K (l + 1) 2) by rw [List.getElem?_set_ne (fun h => hkj h.symm)]; exact HK.out)
                have HN := Lib.hid hna
                clear hc hE e1 e2 e3 e4 hn hna o2
                unfold lcode
                rw [← List.append_assoc]
                go_enter Try.func15, Try.ntmps15
                go_wp2_with (first | (go_at_call 19; (with_reducible refine (most_any H.out k HK.out hK hsk2).mono ?_); rintro e w1 ⟨rfl, h1⟩; obtain ⟨e0, e1, e2, g0, g1, g2⟩ := aCo_cells h1 k HK.out) | (go_at_call 40; (with_reducible refine (lmost_any hK _).mono ?_); rintro e w2 ⟨rfl, rfl⟩) | (go_at_call 41; (with_reducible refine (split_as hK c (by omega) (by have := HC.out; omega) _).mono ?_); rintro e w3 ⟨rfl, n3, rfl⟩) | (go_at_call 42; (with_reducible refine (put_as (h1.drewN n3) j HJ.out hB40 _ _ (by decide) (by decide) P1.out).mono ?_); rintro e w4 ⟨rfl, h4⟩; clear h1) | (go_at_call 42; (with_reducible refine (put_as h4 j (set_at HJ.out _) hB41 _ _ (by omega) (by omega) P2.out).mono ?_); rintro e w5 ⟨rfl, h5⟩; clear h4; rw [set_set] at h5) | (go_at_call 43; (with_reducible refine (next_any h5 k HK2.out hK _ (by omega) hl16).mono ?_); rintro e w6 ⟨rfl, h6⟩; clear h5; rw [HN.out] at h6))
                exact bodyPost_ret (results_tmp rfl _ _ _) rfl ⟨rfl, h6⟩

end Go.Proofs.Ytmlkkeabgnhhnaa
