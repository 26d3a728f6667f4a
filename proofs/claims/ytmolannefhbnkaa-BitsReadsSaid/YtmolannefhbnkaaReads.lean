/- The walk of BitsReads. -/
import Derived.Test.YtmolannefhbnkaaCall
namespace Go.Proofs.Ytmolannefhbnkaa
open Go.RowKit
set_option linter.unusedVariables false
set_option linter.unusedSimpArgs false

set_option maxRecDepth 100000 in
set_option maxHeartbeats 1000000 in
theorem reads_walk {W : World} {sp : Option Addr} {n cap b o : Nat} {wh nn : Nat → Int} {vv : Nat → Nat} (s : ByteArray) (hs0 : s.size ≤ maxLen) (hin : CallsIn W sp n b o wh nn vv) (hn63 : n ≤ 9223372036854775807) :
    Calls Try.prog 7 #[.string s, .slice sp n cap] W fun e w' => e = .returned (.bool true) ∧ Below W.heap.size W w' := by
  have hS := Hp.start W
  by_cases hg : s.size ≤ 2000 ∧ n ≤ 60
  · obtain ⟨hs, hn⟩ := hg
    have h48 : s.size ≤ 2 ^ 48 := by omega
    have hsd : decide (2000 < s.size) = false := by simp; omega
    have HIN := Lib.hid hin
    clear hin
    go_enter Try.func7, Try.ntmps7
    go_wp2_with (first | (go_at_call 23; refine (read_any (by assumption) _ (by first | assumption | decide)).mono ?_; rintro e w1 ⟨rb, rfl, hS⟩) | (go_at_call 28; refine (qread_any (by assumption) _ (by first | assumption | decide)).mono ?_; rintro e w1 ⟨qrb, rfl, hS⟩))
    have HS := Lib.hid (by assumption : Hp W _ [_, _] _)
    go_loopw [7] (fun i wr => ∃ c p : Nat, i = .int .i64 c ∧ c ≤ n ∧ p ≤ 8 * s.size ∧ Hp W wr [aQrd qrb s p, aRd rb s p] []) (fun i _ => n - (intOf i).toNat)
    case atStart => exact ⟨0, 0, rfl, Nat.zero_le _, Nat.zero_le _, HS.out⟩
    case round =>
      obtain ⟨c, p, rfl, g1, g0, g2⟩ := hrel
      by_cases hc : c < n
      · obtain ⟨rfl, hblt⟩ := HIN.out.at_ (by omega)
        have k0 : ∀ w', Below W.heap.size W w' → w'.cell? ⟨b, o + c * 3, none⟩ = some (.int .u8 (wh c)) := fun w' hb => (hb.cell (p := ⟨b, o + c * 3, none⟩) hblt).trans (HIN.out.c0 c hc)
        have k1 : ∀ w', Below W.heap.size W w' → w'.cell? ⟨b, o + c * 3 + 1, none⟩ = some (.int .i64 (nn c)) := fun w' hb => (hb.cell (p := ⟨b, o + c * 3 + 1, none⟩) hblt).trans (HIN.out.c1 c hc)
        obtain ⟨u1, u2⟩ := HIN.out.b1 c hc
        obtain ⟨t1, t2⟩ := HIN.out.b0 c hc
        have hO := g2.below
        have i1 := uI_le (n := 1) g0
        have i2 := uI_le (n := nn c) g0
        generalize wh c = whc at k0 t1 t2
        generalize nn c = nc at k1 u1 u2 i2
        have I1 := Lib.hid i1; have I2 := Lib.hid i2
        clear i1 i2
        have h3 : whc % 3 = 0 ∨ whc % 3 = 1 ∨ whc % 3 = 2 := by omega
        rcases h3 with h3 | h3 | h3
        · have d1 : (whc % 3 == 1) = false := by rw [h3]; rfl
          have d2 : (whc % 3 == 2) = false := by rw [h3]; rfl
          clear h3
          go_wp2_with (first | (go_at_call 27; refine (bit_any (by assumption) _ (by first | exact at0 | exact at1 | exact at2 | exact at3)).mono ?_; rintro e w1 ⟨rfl, hS⟩; simp only [set0, set1, set2, set3] at hS; have hO := hS.below) | (go_at_call 29; refine (qbit_any (by assumption) _ (by first | exact at0 | exact at1 | exact at2 | exact at3)).mono ?_; rintro e w1 ⟨rfl, hS⟩; simp only [set0, set1, set2, set3] at hS; have hO := hS.below) | (go_at_call 24; refine (u_any (by assumption) _ (by first | exact at0 | exact at1 | exact at2 | exact at3) _).mono ?_; rintro e w1 ⟨rfl, hS⟩; simp only [set0, set1, set2, set3] at hS; have hO := hS.below) | (go_at_call 32; refine (qu_any (by assumption) _ (by first | exact at0 | exact at1 | exact at2 | exact at3) _).mono ?_; rintro e w1 ⟨rfl, hS⟩; simp only [set0, set1, set2, set3] at hS; have hO := hS.below) | (go_at_call 25; refine (pos_any (by assumption) _ (by first | exact at0 | exact at1 | exact at2 | exact at3)).mono ?_; rintro e w1 ⟨rfl, rfl⟩) | (go_at_call 33; refine (qpos_any (by assumption) _ (by first | exact at0 | exact at1 | exact at2 | exact at3)).mono ?_; rintro e w1 ⟨rfl, rfl⟩) | (go_at_call 26; refine (left_hp (by assumption) _ (by first | exact at0 | exact at1 | exact at2 | exact at3)).mono ?_; rintro e w1 ⟨rfl, hS⟩; have hO := hS.below) | (go_at_call 34; refine (qleft_hp (by assumption) _ (by first | exact at0 | exact at1 | exact at2 | exact at3)).mono ?_; rintro e w1 ⟨rfl, hS⟩; have hO := hS.below) | (go_at_call 30; refine (copy_any (by assumption) _ (by first | exact at0 | exact at1 | exact at2 | exact at3)).mono ?_; rintro e w1 ⟨cb, rfl, hS⟩; have hO := hS.below) | (go_at_call 31; refine (qcopy_any (by assumption) _ (by first | exact at0 | exact at1 | exact at2 | exact at3)).mono ?_; rintro e w1 ⟨qcb, rfl, hS⟩; have hO := hS.below))
          go_roundw
          case rel => exact ⟨c + 1, _, by go_num, by omega, I2.out, by assumption⟩
          case measure => simp [intOf]; omega
        · have d1 : (whc % 3 == 1) = true := by rw [h3]; rfl
          clear h3
          go_wp2_with (first | (go_at_call 27; refine (bit_any (by assumption) _ (by first | exact at0 | exact at1 | exact at2 | exact at3)).mono ?_; rintro e w1 ⟨rfl, hS⟩; simp only [set0, set1, set2, set3] at hS; have hO := hS.below) | (go_at_call 29; refine (qbit_any (by assumption) _ (by first | exact at0 | exact at1 | exact at2 | exact at3)).mono ?_; rintro e w1 ⟨rfl, hS⟩; simp only [set0, set1, set2, set3] at hS; have hO := hS.below) | (go_at_call 24; refine (u_any (by assumption) _ (by first | exact at0 | exact at1 | exact at2 | exact at3) _).mono ?_; rintro e w1 ⟨rfl, hS⟩; simp only [set0, set1, set2, set3] at hS; have hO := hS.below) | (go_at_call 32; refine (qu_any (by assumption) _ (by first | exact at0 | exact at1 | exact at2 | exact at3) _).mono ?_; rintro e w1 ⟨rfl, hS⟩; simp only [set0, set1, set2, set3] at hS; have hO := hS.below) | (go_at_call 25; refine (pos_any (by assumption) _ (by first | exact at0 | exact at1 | exact at2 | exact at3)).mono ?_; rintro e w1 ⟨rfl, rfl⟩) | (go_at_call 33; refine (qpos_any (by assumption) _ (by first | exact at0 | exact at1 | exact at2 | exact at3)).mono ?_; rintro e w1 ⟨rfl, rfl⟩) | (go_at_call 26; refine (left_hp (by assumption) _ (by first | exact at0 | exact at1 | exact at2 | exact at3)).mono ?_; rintro e w1 ⟨rfl, hS⟩; have hO := hS.below) | (go_at_call 34; refine (qleft_hp (by assumption) _ (by first | exact at0 | exact at1 | exact at2 | exact at3)).mono ?_; rintro e w1 ⟨rfl, hS⟩; have hO := hS.below) | (go_at_call 30; refine (copy_any (by assumption) _ (by first | exact at0 | exact at1 | exact at2 | exact at3)).mono ?_; rintro e w1 ⟨cb, rfl, hS⟩; have hO := hS.below) | (go_at_call 31; refine (qcopy_any (by assumption) _ (by first | exact at0 | exact at1 | exact at2 | exact at3)).mono ?_; rintro e w1 ⟨qcb, rfl, hS⟩; have hO := hS.below))
          go_roundw
          case rel => exact ⟨c + 1, _, by go_num, by omega, I1.out, by assumption⟩
          case measure => simp [intOf]; omega
        · have d1 : (whc % 3 == 1) = false := by rw [h3]; rfl
          have d2 : (whc % 3 == 2) = true := by rw [h3]; rfl
          clear h3
          go_wp2_with (first | (go_at_call 27; refine (bit_any (by assumption) _ (by first | exact at0 | exact at1 | exact at2 | exact at3)).mono ?_; rintro e w1 ⟨rfl, hS⟩; simp only [set0, set1, set2, set3] at hS; have hO := hS.below) | (go_at_call 29; refine (qbit_any (by assumption) _ (by first | exact at0 | exact at1 | exact at2 | exact at3)).mono ?_; rintro e w1 ⟨rfl, hS⟩; simp only [set0, set1, set2, set3] at hS; have hO := hS.below) | (go_at_call 24; refine (u_any (by assumption) _ (by first | exact at0 | exact at1 | exact at2 | exact at3) _).mono ?_; rintro e w1 ⟨rfl, hS⟩; simp only [set0, set1, set2, set3] at hS; have hO := hS.below) | (go_at_call 32; refine (qu_any (by assumption) _ (by first | exact at0 | exact at1 | exact at2 | exact at3) _).mono ?_; rintro e w1 ⟨rfl, hS⟩; simp only [set0, set1, set2, set3] at hS; have hO := hS.below) | (go_at_call 25; refine (pos_any (by assumption) _ (by first | exact at0 | exact at1 | exact at2 | exact at3)).mono ?_; rintro e w1 ⟨rfl, rfl⟩) | (go_at_call 33; refine (qpos_any (by assumption) _ (by first | exact at0 | exact at1 | exact at2 | exact at3)).mono ?_; rintro e w1 ⟨rfl, rfl⟩) | (go_at_call 26; refine (left_hp (by assumption) _ (by first | exact at0 | exact at1 | exact at2 | exact at3)).mono ?_; rintro e w1 ⟨rfl, hS⟩; have hO := hS.below) | (go_at_call 34; refine (qleft_hp (by assumption) _ (by first | exact at0 | exact at1 | exact at2 | exact at3)).mono ?_; rintro e w1 ⟨rfl, hS⟩; have hO := hS.below) | (go_at_call 30; refine (copy_any (by assumption) _ (by first | exact at0 | exact at1 | exact at2 | exact at3)).mono ?_; rintro e w1 ⟨cb, rfl, hS⟩; have hO := hS.below) | (go_at_call 31; refine (qcopy_any (by assumption) _ (by first | exact at0 | exact at1 | exact at2 | exact at3)).mono ?_; rintro e w1 ⟨qcb, rfl, hS⟩; have hO := hS.below))
          go_roundw
          case rel => exact ⟨c + 1, p, by go_num, by omega, g0, Hp.tail (Hp.tail (by assumption))⟩
          case measure => simp [intOf]; omega
      · obtain rfl : c = n := by omega
        go_wp2_with (first | (go_at_call 11; refine (known_any (by assumption)).mono ?_; rintro e w1 ⟨rfl, hS⟩))
        exact bodyPost_ret (results_tmp rfl _ _ _) rfl ⟨rfl, Hp.below (by assumption)⟩
  · by_cases hs : s.size ≤ 2000
    · have hsd : decide (2000 < s.size) = false := by simp; omega
      have hs' : ¬ (n : Int) ≤ 60 := by omega
      go_enter Try.func7, Try.ntmps7
      go_wp2_with (first | (go_at_call 11; refine (known_any (by assumption)).mono ?_; rintro e w1 ⟨rfl, hS⟩))
      exact bodyPost_ret (results_tmp rfl _ _ _) rfl ⟨rfl, Hp.below (by assumption)⟩
    · have hsd : decide (2000 < s.size) = true := by simp; omega
      go_enter Try.func7, Try.ntmps7
      go_wp2_with (first | (go_at_call 11; refine (known_any (by assumption)).mono ?_; rintro e w1 ⟨rfl, hS⟩))
      exact bodyPost_ret (results_tmp rfl _ _ _) rfl ⟨rfl, Hp.below (by assumption)⟩
end Go.Proofs.Ytmolannefhbnkaa
