/- The walk of GolombReads. -/
import Derived.Test.YtlmkabpdgemndaaGr
import Derived.Test.YtlmkabpdgemndaaGk
import Derived.Test.YtlmkabpdgemndaaFl
namespace Go.Proofs.Ytlmkabpdgemndaa
open Go.RowKit
set_option linter.unusedVariables false
set_option maxRecDepth 100000
set_option linter.unusedSimpArgs false

/-- What is known of a call that came in. -/
structure CallIn (W : World) (b o : Nat) (wh : Int) (m : Nat) (k : Int) (v : Nat) : Prop where
  c0 : W.cell? ⟨b, o, none⟩ = some (.int .u8 wh)
  c1 : W.cell? ⟨b, o + 1, none⟩ = some (.int .u64 m)
  c2 : W.cell? ⟨b, o + 2, none⟩ = some (.int .i64 k)
  c3 : W.cell? ⟨b, o + 3, none⟩ = some (.int .u64 v)
  w0 : 0 ≤ wh ∧ wh ≤ 255
  m1 : m < 18446744073709551616
  k1 : -9223372036854775808 ≤ k ∧ k ≤ 9223372036854775807
  v1 : v < 18446744073709551616

theorem call_in {W : World} {sp : Option Addr} {n b o : Nat} {C : Nat → List Value} (h : RowsIn Try.prog W [.int .u8, .int .u64, .int .i64, .int .u64] sp n b o C) {i : Nat} (hi : i < n) :
    CallIn W b (o + i * 4) (zat C i 0) (zat C i 1).toNat (zat C i 2) (zat C i 3).toNat := by
  obtain ⟨c0, w0⟩ := h.int hi 0 (k := .u8) rfl
  obtain ⟨c1, w1⟩ := h.int hi 1 (k := .u64) rfl
  obtain ⟨c2, w2⟩ := h.int hi 2 (k := .i64) rfl
  obtain ⟨c3, w3⟩ := h.int hi 3 (k := .u64) rfl
  have b0 := bounds_u8 w0; have b1 := bounds_u64 w1; have b2 := bounds_i64 w2; have b3 := bounds_u64 w3
  exact ⟨c0, by rw [Int.toNat_of_nonneg b1.1]; exact c1, c2, by rw [Int.toNat_of_nonneg b3.1]; exact c3, ⟨b0.1, by omega⟩, by omega, ⟨by omega, by omega⟩, by omega⟩

set_option maxHeartbeats 1000000 in
theorem greads_walk {W : World} {sp : Option Addr} {n cap b o : Nat} {C : Nat → List Value} (s : ByteArray) (hs0 : s.size ≤ maxLen) (hin : RowsIn Try.prog W [.int .u8, .int .u64, .int .i64, .int .u64] sp n b o C) (hn63 : n ≤ 9223372036854775807) :
    Calls Try.prog 8 #[.string s, .slice sp n cap] W fun e w' => e = .returned (.bool true) ∧ Below W.heap.size W w' := by
  have hS := Hp.start W
  by_cases hg : s.size ≤ 200 ∧ n ≤ 40
  · obtain ⟨hs, hn⟩ := hg
    have h48 : s.size ≤ 2 ^ 48 := by omega
    have hsd : decide (200 < s.size) = false := by simp; omega
    have HIN := Lib.hid hin
    clear hin
    go_enter Try.func8, Try.ntmps8
    go_wp2_with (first | (go_at_call 12; refine (read_any (by assumption) _ (by first | assumption | decide)).mono ?_; rintro e w1 ⟨rb, rfl, hS⟩) | (go_at_call 36; refine (qread_any (by assumption) _ (by first | assumption | decide)).mono ?_; rintro e w1 ⟨qrb, rfl, hS⟩))
    have HS := Lib.hid (by assumption : Hp W _ [_, _] _)
    go_loopw [7] (fun i wr => ∃ c p : Nat, i = .int .i64 c ∧ c ≤ n ∧ Hp W wr [aQrd qrb s p, aRd rb s p] []) (fun i _ => n - (intOf i).toNat)
    case atStart => exact ⟨0, 0, rfl, Nat.zero_le _, HS.out⟩
    case round =>
      obtain ⟨c, p, rfl, g1, g2⟩ := hrel
      by_cases hc : c < n
      · obtain ⟨rfl, hblt⟩ := HIN.out.at_ (by omega)
        have hcl := call_in HIN.out hc
        generalize zat C c 0 = wh at hcl
        generalize (zat C c 1).toNat = m at hcl
        generalize zat C c 2 = k at hcl
        generalize (zat C c 3).toNat = v at hcl
        have k0 : ∀ w', Below W.heap.size W w' → w'.cell? ⟨b, o + c * 4, none⟩ = some (.int .u8 wh) := fun w' hb => (hb.cell (p := ⟨b, o + c * 4, none⟩) hblt).trans hcl.c0
        have k1 : ∀ w', Below W.heap.size W w' → w'.cell? ⟨b, o + c * 4 + 1, none⟩ = some (.int .u64 m) := fun w' hb => (hb.cell (p := ⟨b, o + c * 4 + 1, none⟩) hblt).trans hcl.c1
        have k2 : ∀ w', Below W.heap.size W w' → w'.cell? ⟨b, o + c * 4 + 2, none⟩ = some (.int .i64 k) := fun w' hb => (hb.cell (p := ⟨b, o + c * 4 + 2, none⟩) hblt).trans hcl.c2
        have t1 := hcl.w0
        have hm := hcl.m1
        have hk := hcl.k1
        have hO := g2.below
        clear hcl
        have h3 : wh % 4 = 0 ∨ wh % 4 = 1 ∨ wh % 4 = 2 ∨ wh % 4 = 3 := by omega
        rcases h3 with h3 | h3 | h3 | h3
        all_goals
          first | (have d0 : (wh % 4 == 0) = true := by rw [h3]; rfl) | (have d0 : (wh % 4 == 0) = false := by rw [h3]; rfl)
          first | (have d1 : (wh % 4 == 1) = true := by rw [h3]; rfl) | (have d1 : (wh % 4 == 1) = false := by rw [h3]; rfl)
          first | (have d2 : (wh % 4 == 2) = true := by rw [h3]; rfl) | (have d2 : (wh % 4 == 2) = false := by rw [h3]; rfl)
          clear h3
          go_wp2_with (first | (go_at_call 17; refine (gue_any (by assumption) _ (by first | exact at0 | exact at1 | exact at2 | exact at3)).mono ?_; rintro e w1 ⟨rfl, hS⟩; simp only [set0, set1, set2, set3] at hS; have hO := hS.below) | (go_at_call 37; refine (qgue_any (by assumption) _ (by first | exact at0 | exact at1 | exact at2 | exact at3)).mono ?_; rintro e w1 ⟨rfl, hS⟩; simp only [set0, set1, set2, set3] at hS; have hO := hS.below) | (go_at_call 38; refine (gse_any (by assumption) _ (by first | exact at0 | exact at1 | exact at2 | exact at3)).mono ?_; rintro e w1 ⟨rfl, hS⟩; simp only [set0, set1, set2, set3] at hS; have hO := hS.below) | (go_at_call 39; refine (qgse_any (by assumption) _ (by first | exact at0 | exact at1 | exact at2 | exact at3)).mono ?_; rintro e w1 ⟨rfl, hS⟩; simp only [set0, set1, set2, set3] at hS; have hO := hS.below) | (go_at_call 40; refine (gte_any (by assumption) _ (by first | exact at0 | exact at1 | exact at2 | exact at3) _ (by first | assumption | omega)).mono ?_; rintro e w1 ⟨rfl, hS⟩; simp only [set0, set1, set2, set3] at hS; have hO := hS.below) | (go_at_call 41; refine (qgte_any (by assumption) _ (by first | exact at0 | exact at1 | exact at2 | exact at3) _ (by first | assumption | omega)).mono ?_; rintro e w1 ⟨rfl, hS⟩; simp only [set0, set1, set2, set3] at hS; have hO := hS.below) | (go_at_call 42; refine (guk_any (by assumption) _ (by first | exact at0 | exact at1 | exact at2 | exact at3) _).mono ?_; rintro e w1 ⟨rfl, hS⟩; simp only [set0, set1, set2, set3] at hS; have hO := hS.below) | (go_at_call 43; refine (qguk_any (by assumption) _ (by first | exact at0 | exact at1 | exact at2 | exact at3) _).mono ?_; rintro e w1 ⟨rfl, hS⟩; simp only [set0, set1, set2, set3] at hS; have hO := hS.below) | (go_at_call 21; refine (pos_any (by assumption) _ (by first | exact at0 | exact at1 | exact at2 | exact at3)).mono ?_; rintro e w1 ⟨rfl, rfl⟩) | (go_at_call 44; refine (qpos_any (by assumption) _ (by first | exact at0 | exact at1 | exact at2 | exact at3)).mono ?_; rintro e w1 ⟨rfl, rfl⟩))
          go_roundw
          case rel => exact ⟨c + 1, _, by go_num, by omega, by assumption⟩
          case measure => simp [intOf]; omega
      · obtain rfl : c = n := by omega
        go_wp2_with (first | (go_at_call 11; refine (gknown_any (by assumption)).mono ?_; rintro e w1 ⟨rfl, hS⟩))
        exact bodyPost_ret (results_tmp rfl _ _ _) rfl ⟨rfl, Hp.below (by assumption)⟩
  · by_cases hs : s.size ≤ 200
    · have hsd : decide (200 < s.size) = false := by simp; omega
      have hs' : ¬ (n : Int) ≤ 40 := by omega
      go_enter Try.func8, Try.ntmps8
      go_wp2_with (first | (go_at_call 11; refine (gknown_any (by assumption)).mono ?_; rintro e w1 ⟨rfl, hS⟩))
      exact bodyPost_ret (results_tmp rfl _ _ _) rfl ⟨rfl, Hp.below (by assumption)⟩
    · have hsd : decide (200 < s.size) = true := by simp; omega
      go_enter Try.func8, Try.ntmps8
      go_wp2_with (first | (go_at_call 11; refine (gknown_any (by assumption)).mono ?_; rintro e w1 ⟨rfl, hS⟩))
      exact bodyPost_ret (results_tmp rfl _ _ _) rfl ⟨rfl, Hp.below (by assumption)⟩

end Go.Proofs.Ytlmkabpdgemndaa
