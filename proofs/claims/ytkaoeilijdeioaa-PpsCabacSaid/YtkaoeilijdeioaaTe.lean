/- The program's End. -/
import Derived.Test.YtkaoeilijdeioaaTm
namespace Go.Proofs.Ytkaoeilijdeioaa
open Go.RowKit
set_option linter.unusedVariables false
set_option maxRecDepth 100000
set_option linter.unusedSimpArgs false

theorem end_nil (wd : Bool) (w : World) : Calls Try.prog 51 #[.pointer none, .bool wd] w fun e w' => e = .returned (.int .i64 1) ∧ w = w' := by
  go_enter Try.func51, Try.ntmps51
  go_wp2
  exact bodyPost_ret (results_tmp rfl _ _ _) rfl ⟨rfl, rfl⟩

set_option maxHeartbeats 4000000 in
theorem end_any {W w : World} {L : List AObj} {F : List (Nat × Obj)} (h : Hp W w L F) (k : Nat) {b : Nat} {s : ByteArray} {i : Nat} (hk : L[k]? = some (aRd b s i)) (wd : Bool) :
    Calls Try.prog 51 #[.pointer (some ⟨b, 0, none⟩), .bool wd] w fun e w' => e = .returned (.int .i64 (enE s i wd)) ∧ Hp W w' (L.set k (aRd b s (enI s i wd))) F := by
  obtain ⟨_, hs48, his⟩ := h.rd k hk
  have H := Lib.hid h; clear h
  have HK := Lib.hid hk; clear hk
  by_cases hi : 8 * s.size ≤ i
  · have e1 : enE s i wd = 5 := if_pos hi
    have e2 : enI s i wd = i := by unfold enI; rw [e1]; rfl
    have hl : 0 = 8 * s.size - i := by omega
    rw [e1, e2, set_same HK.out]
    have R := Lib.hid hl; clear e1 e2 hl
    go_enter Try.func51, Try.ntmps51
    go_wp2_with (first | (go_at_call 65; (with_reducible refine (left_as H.out k HK.out R.out).mono ?_); rintro e w0 ⟨rfl, h0⟩))
    exact bodyPost_ret (results_tmp rfl _ _ _) rfl ⟨rfl, h0⟩
  · have hi' : i < 8 * s.size := by omega
    have hb := bt_le s i
    obtain ⟨V, hV⟩ : ∃ V, V = bt s i := ⟨_, rfl⟩
    obtain ⟨z, hz⟩ : ∃ z, zR s (i + 1) = z := ⟨_, rfl⟩
    obtain ⟨l, hl⟩ : ∃ l, l = 8 * s.size - i := ⟨_, rfl⟩
    obtain ⟨A, hA⟩ : ∃ A, A = (8 * s.size - i - 1) / 8 := ⟨_, rfl⟩
    have hAi : ((l : Int) - 1) / 8 = (A : Int) := by omega
    have hl0 : 1 ≤ l ∧ l ≤ 8 * 2 ^ 48 := by omega
    have hg : enG s i = (decide (V = 1) && z) := by unfold enG; rw [← hV, hz]
    have u1 : ∀ wd, enE s i wd = if enG s i = true ∧ A % 2 = 0 ∧ (wd = false → A = 0) then 0 else 4 := fun wd => by unfold enE; rw [if_neg hi, ← hA]
    rw [← hV] at hb
    have R := Lib.hid (And.intro hV (And.intro hz hl)); clear hV hz hl hA
    have hl1 : ((l : Int) == 0) = false := by simp; omega
    have hb2 : V = 0 ∨ V = 1 := by omega
    clear hb
    rcases hb2 with rfl | rfl
    · replace hg : enG s i = false := hg
      cases wd
      · replace u1 := u1 false
        by_cases hc : A = 0
        · have e1 : enE s i false = 4 := by rw [u1, if_neg (by rw [hg]; simp)]
          have E := Lib.hid (And.intro e1 (show enI s i false = i by unfold enI; rw [if_neg (by rw [e1]; decide)])); clear e1 u1
          have hA0 : ((A : Int) == 0) = true := by simp; omega
          clear hc hg
          go_enter Try.func51, Try.ntmps51
          go_wp2_with (first | (go_at_call 65; (with_reducible refine (left_as H.out k HK.out R.out.2.2).mono ?_); rintro e w0 ⟨rfl, h0⟩) | (go_at_call 66; (with_reducible refine (from_any h0 k HK.out).mono ?_); rintro e w1 ⟨c, rfl, hS⟩; clear h0) | (go_at_call 49; (refine (u_bit (hS.alloc (.cells #[fU c, fLeft c] 99 (0, 0))) 0 at0 R.out.1 hi').mono ?_); rintro e w2 ⟨rfl, hS2⟩; simp only [set0] at hS2; obtain ⟨x0, x1⟩ := scan_cells hS2; clear hS))
          exact bodyPost_ret (results_tmp rfl _ _ _) rfl ⟨by rw [E.out.1]; rfl, by rw [E.out.2, set_same HK.out]; exact hS2.tail.drop⟩
        · have e1 : enE s i false = 4 := by rw [u1, if_neg (by intro hx; have h1 := hx.2.1; have h2 := hx.2.2; simp at h2; omega)]
          have E := Lib.hid (And.intro e1 (show enI s i false = i by unfold enI; rw [if_neg (by rw [e1]; decide)])); clear e1 u1
          have hA0 : ((A : Int) == 0) = false := by simp; omega
          clear hc hg
          go_enter Try.func51, Try.ntmps51
          go_wp2_with (first | (go_at_call 65; (with_reducible refine (left_as H.out k HK.out R.out.2.2).mono ?_); rintro e w0 ⟨rfl, h0⟩) | (go_at_call 66; (with_reducible refine (from_any h0 k HK.out).mono ?_); rintro e w1 ⟨c, rfl, hS⟩; clear h0) | (go_at_call 49; (refine (u_bit (hS.alloc (.cells #[fU c, fLeft c] 99 (0, 0))) 0 at0 R.out.1 hi').mono ?_); rintro e w2 ⟨rfl, hS2⟩; simp only [set0] at hS2; obtain ⟨x0, x1⟩ := scan_cells hS2; clear hS))
          exact bodyPost_ret (results_tmp rfl _ _ _) rfl ⟨by rw [E.out.1]; rfl, by rw [E.out.2, set_same HK.out]; exact hS2.tail.drop⟩
      · replace u1 := u1 true
        by_cases hc : A % 2 = 0
        · have e1 : enE s i true = 4 := by rw [u1, if_neg (by rw [hg]; simp)]
          have E := Lib.hid (And.intro e1 (show enI s i true = i by unfold enI; rw [if_neg (by rw [e1]; decide)])); clear e1 u1
          have hA2 : ((A : Int) % 2 == 0) = true := by simp; omega
          clear hc hg
          go_enter Try.func51, Try.ntmps51
          go_wp2_with (first | (go_at_call 65; (with_reducible refine (left_as H.out k HK.out R.out.2.2).mono ?_); rintro e w0 ⟨rfl, h0⟩) | (go_at_call 66; (with_reducible refine (from_any h0 k HK.out).mono ?_); rintro e w1 ⟨c, rfl, hS⟩; clear h0) | (go_at_call 49; (refine (u_bit (hS.alloc (.cells #[fU c, fLeft c] 99 (0, 0))) 0 at0 R.out.1 hi').mono ?_); rintro e w2 ⟨rfl, hS2⟩; simp only [set0] at hS2; obtain ⟨x0, x1⟩ := scan_cells hS2; clear hS))
          exact bodyPost_ret (results_tmp rfl _ _ _) rfl ⟨by rw [E.out.1]; rfl, by rw [E.out.2, set_same HK.out]; exact hS2.tail.drop⟩
        · have e1 : enE s i true = 4 := by rw [u1, if_neg (by intro hx; have h1 := hx.2.1; have h2 := hx.2.2; simp at h2; omega)]
          have E := Lib.hid (And.intro e1 (show enI s i true = i by unfold enI; rw [if_neg (by rw [e1]; decide)])); clear e1 u1
          have hA2 : ((A : Int) % 2 == 0) = false := by simp; omega
          clear hc hg
          go_enter Try.func51, Try.ntmps51
          go_wp2_with (first | (go_at_call 65; (with_reducible refine (left_as H.out k HK.out R.out.2.2).mono ?_); rintro e w0 ⟨rfl, h0⟩) | (go_at_call 66; (with_reducible refine (from_any h0 k HK.out).mono ?_); rintro e w1 ⟨c, rfl, hS⟩; clear h0) | (go_at_call 49; (refine (u_bit (hS.alloc (.cells #[fU c, fLeft c] 99 (0, 0))) 0 at0 R.out.1 hi').mono ?_); rintro e w2 ⟨rfl, hS2⟩; simp only [set0] at hS2; obtain ⟨x0, x1⟩ := scan_cells hS2; clear hS))
          exact bodyPost_ret (results_tmp rfl _ _ _) rfl ⟨by rw [E.out.1]; rfl, by rw [E.out.2, set_same HK.out]; exact hS2.tail.drop⟩
    · cases z
      · replace hg : enG s i = false := hg
        cases wd
        · replace u1 := u1 false
          by_cases hc : A = 0
          · have e1 : enE s i false = 4 := by rw [u1, if_neg (by rw [hg]; simp)]
            have E := Lib.hid (And.intro e1 (show enI s i false = i by unfold enI; rw [if_neg (by rw [e1]; decide)])); clear e1 u1
            have hA0 : ((A : Int) == 0) = true := by simp; omega
            clear hc hg
            go_enter Try.func51, Try.ntmps51
            go_wp2_with (first | (go_at_call 65; (with_reducible refine (left_as H.out k HK.out R.out.2.2).mono ?_); rintro e w0 ⟨rfl, h0⟩) | (go_at_call 66; (with_reducible refine (from_any h0 k HK.out).mono ?_); rintro e w1 ⟨c, rfl, hS⟩; clear h0) | (go_at_call 49; (refine (u_bit (hS.alloc (.cells #[fU c, fLeft c] 99 (0, 0))) 0 at0 R.out.1 hi').mono ?_); rintro e w2 ⟨rfl, hS2⟩; simp only [set0] at hS2; obtain ⟨x0, x1⟩ := scan_cells hS2; clear hS) | (go_at_call 67; (refine (zero_rest hS2 0 at0 R.out.2.2 R.out.2.1 hs48).mono ?_); rintro e w4 ⟨rfl, j', hS3⟩; simp only [set0] at hS3; clear hS2))
            exact bodyPost_ret (results_tmp rfl _ _ _) rfl ⟨by rw [E.out.1]; rfl, by rw [E.out.2, set_same HK.out]; exact hS3.tail.drop⟩
          · have e1 : enE s i false = 4 := by rw [u1, if_neg (by intro hx; have h1 := hx.2.1; have h2 := hx.2.2; simp at h2; omega)]
            have E := Lib.hid (And.intro e1 (show enI s i false = i by unfold enI; rw [if_neg (by rw [e1]; decide)])); clear e1 u1
            have hA0 : ((A : Int) == 0) = false := by simp; omega
            clear hc hg
            go_enter Try.func51, Try.ntmps51
            go_wp2_with (first | (go_at_call 65; (with_reducible refine (left_as H.out k HK.out R.out.2.2).mono ?_); rintro e w0 ⟨rfl, h0⟩) | (go_at_call 66; (with_reducible refine (from_any h0 k HK.out).mono ?_); rintro e w1 ⟨c, rfl, hS⟩; clear h0) | (go_at_call 49; (refine (u_bit (hS.alloc (.cells #[fU c, fLeft c] 99 (0, 0))) 0 at0 R.out.1 hi').mono ?_); rintro e w2 ⟨rfl, hS2⟩; simp only [set0] at hS2; obtain ⟨x0, x1⟩ := scan_cells hS2; clear hS) | (go_at_call 67; (refine (zero_rest hS2 0 at0 R.out.2.2 R.out.2.1 hs48).mono ?_); rintro e w4 ⟨rfl, j', hS3⟩; simp only [set0] at hS3; clear hS2))
            exact bodyPost_ret (results_tmp rfl _ _ _) rfl ⟨by rw [E.out.1]; rfl, by rw [E.out.2, set_same HK.out]; exact hS3.tail.drop⟩
        · replace u1 := u1 true
          by_cases hc : A % 2 = 0
          · have e1 : enE s i true = 4 := by rw [u1, if_neg (by rw [hg]; simp)]
            have E := Lib.hid (And.intro e1 (show enI s i true = i by unfold enI; rw [if_neg (by rw [e1]; decide)])); clear e1 u1
            have hA2 : ((A : Int) % 2 == 0) = true := by simp; omega
            clear hc hg
            go_enter Try.func51, Try.ntmps51
            go_wp2_with (first | (go_at_call 65; (with_reducible refine (left_as H.out k HK.out R.out.2.2).mono ?_); rintro e w0 ⟨rfl, h0⟩) | (go_at_call 66; (with_reducible refine (from_any h0 k HK.out).mono ?_); rintro e w1 ⟨c, rfl, hS⟩; clear h0) | (go_at_call 49; (refine (u_bit (hS.alloc (.cells #[fU c, fLeft c] 99 (0, 0))) 0 at0 R.out.1 hi').mono ?_); rintro e w2 ⟨rfl, hS2⟩; simp only [set0] at hS2; obtain ⟨x0, x1⟩ := scan_cells hS2; clear hS) | (go_at_call 67; (refine (zero_rest hS2 0 at0 R.out.2.2 R.out.2.1 hs48).mono ?_); rintro e w4 ⟨rfl, j', hS3⟩; simp only [set0] at hS3; clear hS2))
            exact bodyPost_ret (results_tmp rfl _ _ _) rfl ⟨by rw [E.out.1]; rfl, by rw [E.out.2, set_same HK.out]; exact hS3.tail.drop⟩
          · have e1 : enE s i true = 4 := by rw [u1, if_neg (by intro hx; have h1 := hx.2.1; have h2 := hx.2.2; simp at h2; omega)]
            have E := Lib.hid (And.intro e1 (show enI s i true = i by unfold enI; rw [if_neg (by rw [e1]; decide)])); clear e1 u1
            have hA2 : ((A : Int) % 2 == 0) = false := by simp; omega
            clear hc hg
            go_enter Try.func51, Try.ntmps51
            go_wp2_with (first | (go_at_call 65; (with_reducible refine (left_as H.out k HK.out R.out.2.2).mono ?_); rintro e w0 ⟨rfl, h0⟩) | (go_at_call 66; (with_reducible refine (from_any h0 k HK.out).mono ?_); rintro e w1 ⟨c, rfl, hS⟩; clear h0) | (go_at_call 49; (refine (u_bit (hS.alloc (.cells #[fU c, fLeft c] 99 (0, 0))) 0 at0 R.out.1 hi').mono ?_); rintro e w2 ⟨rfl, hS2⟩; simp only [set0] at hS2; obtain ⟨x0, x1⟩ := scan_cells hS2; clear hS) | (go_at_call 67; (refine (zero_rest hS2 0 at0 R.out.2.2 R.out.2.1 hs48).mono ?_); rintro e w4 ⟨rfl, j', hS3⟩; simp only [set0] at hS3; clear hS2))
            exact bodyPost_ret (results_tmp rfl _ _ _) rfl ⟨by rw [E.out.1]; rfl, by rw [E.out.2, set_same HK.out]; exact hS3.tail.drop⟩
      · replace hg : enG s i = true := hg
        cases wd
        · replace u1 := u1 false
          by_cases hc : A = 0
          · have e1 : enE s i false = 0 := by rw [u1, if_pos ⟨hg, by omega, by simp; try omega⟩]
            have E := Lib.hid (And.intro e1 (show enI s i false = 8 * s.size by unfold enI; rw [if_pos e1])); clear e1 u1
            have hA0 : ((A : Int) == 0) = true := by simp; omega
            clear hc hg
            go_enter Try.func51, Try.ntmps51
            go_wp2_with (first | (go_at_call 65; (with_reducible refine (left_as H.out k HK.out R.out.2.2).mono ?_); rintro e w0 ⟨rfl, h0⟩) | (go_at_call 66; (with_reducible refine (from_any h0 k HK.out).mono ?_); rintro e w1 ⟨c, rfl, hS⟩; clear h0) | (go_at_call 49; (refine (u_bit (hS.alloc (.cells #[fU c, fLeft c] 99 (0, 0))) 0 at0 R.out.1 hi').mono ?_); rintro e w2 ⟨rfl, hS2⟩; simp only [set0] at hS2; obtain ⟨x0, x1⟩ := scan_cells hS2; clear hS) | (go_at_call 67; (refine (zero_rest hS2 0 at0 R.out.2.2 R.out.2.1 hs48).mono ?_); rintro e w4 ⟨rfl, j', hS3⟩; simp only [set0] at hS3; clear hS2) | (go_at_call 65; (with_reducible refine (left_as hS3.tail.drop k HK.out R.out.2.2).mono ?_); rintro e w5 ⟨rfl, h5⟩; clear hS3))
            have H5 := Lib.hid h5; clear h5
            go_loopw [11] (fun n' wr => ∃ q p : Nat, n' = .int .i64 q ∧ q = 8 * s.size - p ∧ p ≤ 8 * s.size ∧ Hp W wr (L.set k (aRd b s p)) F) (fun n' _ => (intOf n').toNat)
            case atStart => exact ⟨l, i, rfl, R.out.2.2, by omega, by rw [set_same HK.out]; exact H5.out⟩
            case round =>
              obtain ⟨q, p, rfl, g1, g2, g3⟩ := hrel
              by_cases hq : q = 0
              · obtain rfl : p = 8 * s.size := by omega
                subst hq
                clear g1
                have G := Lib.hid g3; clear g3
                go_wp2_with (fail)
                exact bodyPost_ret (results_tmp rfl _ _ _) rfl ⟨by rw [E.out.1]; rfl, by rw [E.out.2]; exact G.out⟩
              · have hq0 : 0 < q := by omega
                by_cases h64 : 64 < q
                · have hy : q - 64 = 8 * s.size - (p + 64) := by omega
                  have hit : p + 64 ≤ 8 * s.size := by omega
                  have Y := Lib.hid hy; clear hy g1
                  go_wp2_with (first | (go_at_call 49; (with_reducible refine (u_at HK.out g3 64 (t := 64) rfl (by decide) hit rfl).mono ?_); rintro e w6 ⟨rfl, g5⟩; clear g3) | (go_at_call 65; (with_reducible refine (left_as g5 k (set_at HK.out _) Y.out).mono ?_); rintro e w7 ⟨rfl, g6⟩; clear g5))
                  go_roundw
                  case rel => exact ⟨q - 64, p + 64, rfl, Y.out, hit, g6⟩
                  case measure => simp [intOf]; omega
                · have hy : 0 = 8 * s.size - (p + q) := by omega
                  have hit : p + q ≤ 8 * s.size := by omega
                  have hq64 : q ≤ 64 := by omega
                  have Y := Lib.hid hy; clear hy g1
                  go_wp2_with (first | (go_at_call 49; (with_reducible refine (u_at HK.out g3 (q : Int) (t := q) rfl hq64 hit rfl).mono ?_); rintro e w6 ⟨rfl, g5⟩; clear g3) | (go_at_call 65; (with_reducible refine (left_as g5 k (set_at HK.out _) Y.out).mono ?_); rintro e w7 ⟨rfl, g6⟩; clear g5))
                  go_roundw
                  case rel => exact ⟨0, p + q, rfl, Y.out, hit, g6⟩
                  case measure => simp [intOf]; omega
          · have e1 : enE s i false = 4 := by rw [u1, if_neg (by intro hx; have h1 := hx.2.1; have h2 := hx.2.2; simp at h2; omega)]
            have E := Lib.hid (And.intro e1 (show enI s i false = i by unfold enI; rw [if_neg (by rw [e1]; decide)])); clear e1 u1
            have hA0 : ((A : Int) == 0) = false := by simp; omega
            clear hc hg
            go_enter Try.func51, Try.ntmps51
            go_wp2_with (first | (go_at_call 65; (with_reducible refine (left_as H.out k HK.out R.out.2.2).mono ?_); rintro e w0 ⟨rfl, h0⟩) | (go_at_call 66; (with_reducible refine (from_any h0 k HK.out).mono ?_); rintro e w1 ⟨c, rfl, hS⟩; clear h0) | (go_at_call 49; (refine (u_bit (hS.alloc (.cells #[fU c, fLeft c] 99 (0, 0))) 0 at0 R.out.1 hi').mono ?_); rintro e w2 ⟨rfl, hS2⟩; simp only [set0] at hS2; obtain ⟨x0, x1⟩ := scan_cells hS2; clear hS) | (go_at_call 67; (refine (zero_rest hS2 0 at0 R.out.2.2 R.out.2.1 hs48).mono ?_); rintro e w4 ⟨rfl, j', hS3⟩; simp only [set0] at hS3; clear hS2))
            exact bodyPost_ret (results_tmp rfl _ _ _) rfl ⟨by rw [E.out.1]; rfl, by rw [E.out.2, set_same HK.out]; exact hS3.tail.drop⟩
        · replace u1 := u1 true
          by_cases hc : A % 2 = 0
          · have e1 : enE s i true = 0 := by rw [u1, if_pos ⟨hg, by omega, by simp; try omega⟩]
            have E := Lib.hid (And.intro e1 (show enI s i true = 8 * s.size by unfold enI; rw [if_pos e1])); clear e1 u1
            have hA2 : ((A : Int) % 2 == 0) = true := by simp; omega
            clear hc hg
            go_enter Try.func51, Try.ntmps51
            go_wp2_with (first | (go_at_call 65; (with_reducible refine (left_as H.out k HK.out R.out.2.2).mono ?_); rintro e w0 ⟨rfl, h0⟩) | (go_at_call 66; (with_reducible refine (from_any h0 k HK.out).mono ?_); rintro e w1 ⟨c, rfl, hS⟩; clear h0) | (go_at_call 49; (refine (u_bit (hS.alloc (.cells #[fU c, fLeft c] 99 (0, 0))) 0 at0 R.out.1 hi').mono ?_); rintro e w2 ⟨rfl, hS2⟩; simp only [set0] at hS2; obtain ⟨x0, x1⟩ := scan_cells hS2; clear hS) | (go_at_call 67; (refine (zero_rest hS2 0 at0 R.out.2.2 R.out.2.1 hs48).mono ?_); rintro e w4 ⟨rfl, j', hS3⟩; simp only [set0] at hS3; clear hS2) | (go_at_call 65; (with_reducible refine (left_as hS3.tail.drop k HK.out R.out.2.2).mono ?_); rintro e w5 ⟨rfl, h5⟩; clear hS3))
            have H5 := Lib.hid h5; clear h5
            go_loopw [11] (fun n' wr => ∃ q p : Nat, n' = .int .i64 q ∧ q = 8 * s.size - p ∧ p ≤ 8 * s.size ∧ Hp W wr (L.set k (aRd b s p)) F) (fun n' _ => (intOf n').toNat)
            case atStart => exact ⟨l, i, rfl, R.out.2.2, by omega, by rw [set_same HK.out]; exact H5.out⟩
            case round =>
              obtain ⟨q, p, rfl, g1, g2, g3⟩ := hrel
              by_cases hq : q = 0
              · obtain rfl : p = 8 * s.size := by omega
                subst hq
                clear g1
                have G := Lib.hid g3; clear g3
                go_wp2_with (fail)
                exact bodyPost_ret (results_tmp rfl _ _ _) rfl ⟨by rw [E.out.1]; rfl, by rw [E.out.2]; exact G.out⟩
              · have hq0 : 0 < q := by omega
                by_cases h64 : 64 < q
                · have hy : q - 64 = 8 * s.size - (p + 64) := by omega
                  have hit : p + 64 ≤ 8 * s.size := by omega
                  have Y := Lib.hid hy; clear hy g1
                  go_wp2_with (first | (go_at_call 49; (with_reducible refine (u_at HK.out g3 64 (t := 64) rfl (by decide) hit rfl).mono ?_); rintro e w6 ⟨rfl, g5⟩; clear g3) | (go_at_call 65; (with_reducible refine (left_as g5 k (set_at HK.out _) Y.out).mono ?_); rintro e w7 ⟨rfl, g6⟩; clear g5))
                  go_roundw
                  case rel => exact ⟨q - 64, p + 64, rfl, Y.out, hit, g6⟩
                  case measure => simp [intOf]; omega
                · have hy : 0 = 8 * s.size - (p + q) := by omega
                  have hit : p + q ≤ 8 * s.size := by omega
                  have hq64 : q ≤ 64 := by omega
                  have Y := Lib.hid hy; clear hy g1
                  go_wp2_with (first | (go_at_call 49; (with_reducible refine (u_at HK.out g3 (q : Int) (t := q) rfl hq64 hit rfl).mono ?_); rintro e w6 ⟨rfl, g5⟩; clear g3) | (go_at_call 65; (with_reducible refine (left_as g5 k (set_at HK.out _) Y.out).mono ?_); rintro e w7 ⟨rfl, g6⟩; clear g5))
                  go_roundw
                  case rel => exact ⟨0, p + q, rfl, Y.out, hit, g6⟩
                  case measure => simp [intOf]; omega
          · have e1 : enE s i true = 4 := by rw [u1, if_neg (by intro hx; have h1 := hx.2.1; have h2 := hx.2.2; simp at h2; omega)]
            have E := Lib.hid (And.intro e1 (show enI s i true = i by unfold enI; rw [if_neg (by rw [e1]; decide)])); clear e1 u1
            have hA2 : ((A : Int) % 2 == 0) = false := by simp; omega
            clear hc hg
            go_enter Try.func51, Try.ntmps51
            go_wp2_with (first | (go_at_call 65; (with_reducible refine (left_as H.out k HK.out R.out.2.2).mono ?_); rintro e w0 ⟨rfl, h0⟩) | (go_at_call 66; (with_reducible refine (from_any h0 k HK.out).mono ?_); rintro e w1 ⟨c, rfl, hS⟩; clear h0) | (go_at_call 49; (refine (u_bit (hS.alloc (.cells #[fU c, fLeft c] 99 (0, 0))) 0 at0 R.out.1 hi').mono ?_); rintro e w2 ⟨rfl, hS2⟩; simp only [set0] at hS2; obtain ⟨x0, x1⟩ := scan_cells hS2; clear hS) | (go_at_call 67; (refine (zero_rest hS2 0 at0 R.out.2.2 R.out.2.1 hs48).mono ?_); rintro e w4 ⟨rfl, j', hS3⟩; simp only [set0] at hS3; clear hS2))
            exact bodyPost_ret (results_tmp rfl _ _ _) rfl ⟨by rw [E.out.1]; rfl, by rw [E.out.2, set_same HK.out]; exact hS3.tail.drop⟩

end Go.Proofs.Ytkaoeilijdeioaa
