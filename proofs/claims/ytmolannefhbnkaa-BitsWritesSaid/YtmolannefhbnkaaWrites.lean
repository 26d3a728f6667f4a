/- The walk of BitsWrites. -/
import Derived.Test.YtmolannefhbnkaaCall
import Derived.Deep.RegionHeld3
namespace Go.Proofs.Ytmolannefhbnkaa
open Go.RowKit
set_option linter.unusedVariables false
set_option linter.unusedSimpArgs false

theorem pB_len {B : List Bool} {n : Int} {v : Nat} : (pB B n v).length ≤ B.length + 64 := by
  unfold pB
  split
  · rename_i h
    unfold pE at h
    by_cases c : n < 0 ∨ 64 < n
    · rw [if_pos c] at h; simp at h
    · rw [List.length_append, bitsN_length]; omega
  · omega

set_option maxRecDepth 100000 in
set_option maxHeartbeats 1000000 in
theorem writes_walk {W : World} {sp : Option Addr} {n cap b o : Nat} {wh nn : Nat → Int} {vv : Nat → Nat} (hin : CallsIn W sp n b o wh nn vv) (hn63 : n ≤ 9223372036854775807) :
    Calls Try.prog 3 #[.slice sp n cap] W fun e w' => e = .returned (.bool true) ∧ Below W.heap.size W w' := by
  have hS := Hp.start W
  by_cases hg : n ≤ 100
  · have HIN := Lib.hid hin
    clear hin
    go_enter Try.func3, Try.ntmps3
    go_wp2_with (first | (go_at_call 12; refine (write_any (by assumption)).mono ?_; rintro e w1 ⟨wb, rfl, hS⟩) | (go_at_call 13; refine (qwrite_any (by assumption)).mono ?_; rintro e w1 ⟨qwb, rfl, hS⟩))
    have HS := Lib.hid (by assumption : Hp W _ [_, _] _)
    go_loopw [5] (fun i wr => ∃ c : Nat, ∃ B : List Bool, i = .int .i64 c ∧ c ≤ n ∧ B.length ≤ 64 * c ∧ Hp W wr [aQwr qwb B, aWr wb B] []) (fun i _ => n - (intOf i).toNat)
    case atStart => exact ⟨0, [], rfl, Nat.zero_le _, by simp, HS.out⟩
    case round =>
      obtain ⟨c, B, rfl, g1, g0, g2⟩ := hrel
      have hB40 : B.length ≤ 2 ^ 40 := by omega
      by_cases hc : c < n
      · obtain ⟨rfl, hblt⟩ := HIN.out.at_ (by omega)
        have k1 : ∀ w', Below W.heap.size W w' → w'.cell? ⟨b, o + c * 3 + 1, none⟩ = some (.int .i64 (nn c)) := fun w' hb => (hb.cell (p := ⟨b, o + c * 3 + 1, none⟩) hblt).trans (HIN.out.c1 c hc)
        have k2 : ∀ w', Below W.heap.size W w' → w'.cell? ⟨b, o + c * 3 + 2, none⟩ = some (.int .u64 (vv c)) := fun w' hb => (hb.cell (p := ⟨b, o + c * 3 + 2, none⟩) hblt).trans (HIN.out.c2 c hc)
        obtain ⟨u1, u2⟩ := HIN.out.b1 c hc
        have u3 := HIN.out.b2 c hc
        have hO := g2.below
        generalize nn c = nc at k1 u1 u2
        generalize vv c = vc at k2 u3
        have hpl := pB_len (B := B) (n := nc) (v := vc)
        have hp40 : (pB B nc vc).length ≤ 2 ^ 40 := by omega
        have hp41 : (pB B nc vc).length ≤ 2 ^ 41 := by omega
        have c1 := k1 _ hO
        have c2 := k2 _ hO
        have g3 := g2.drew
        have hO3 := g3.below
        go_wp2_with fail
        go_region_held3 (fun w' => w'.cell? ⟨b, o + c * 3 + 1, none⟩ = some (.int .i64 nc) ∧ w'.cell? ⟨b, o + c * 3 + 2, none⟩ = some (.int .u64 vc)) (first | exact ⟨k1 _ (by assumption), k2 _ (by assumption)⟩ | go_keep) (first | (go_at_call 14; refine (put_any (by assumption) _ (by first | exact at0 | exact at1 | exact at2 | exact at3) (by first | assumption | omega) _ _ (by first | assumption | omega)).mono ?_; rintro e w1 ⟨rfl, hS⟩; simp only [set0, set1, set2, set3] at hS; have hO := hS.below) | (go_at_call 15; refine (qput_any (by assumption) _ (by first | exact at0 | exact at1 | exact at2 | exact at3) (by first | assumption | omega) _ _ (by first | assumption | omega)).mono ?_; rintro e w1 ⟨rfl, hS⟩; simp only [set0, set1, set2, set3] at hS; have hO := hS.below) | (go_at_call 16; refine (len_hp (by assumption) _ (by first | exact at0 | exact at1 | exact at2 | exact at3) (by first | assumption | omega)).mono ?_; rintro e w1 ⟨rfl, hS⟩; have hO := hS.below) | (go_at_call 17; refine (qlen_any (by assumption) _ (by first | exact at0 | exact at1 | exact at2 | exact at3)).mono ?_; rintro e w1 ⟨rfl, rfl⟩))
        go_wp2
        go_roundw
        case rel => exact ⟨c + 1, pB B nc vc, by go_num, by omega, by omega, by assumption⟩
        case measure => simp [intOf]; omega
      · obtain rfl : c = n := by omega
        have hB41 : B.length ≤ 2 ^ 41 := by omega
        go_wp2_with (first | (go_at_call 18; refine (wbits_any (by assumption) _ (by first | exact at0 | exact at1 | exact at2 | exact at3) (by first | assumption | omega)).mono ?_; rintro e w1 ⟨rfl, hS⟩) | (go_at_call 19; refine (qbits_any (by assumption) _ (by first | exact at0 | exact at1 | exact at2 | exact at3)).mono ?_; rintro e w1 ⟨rfl, rfl⟩) | (go_at_call 20; refine (bytes_any (by assumption) _ (by first | exact at0 | exact at1 | exact at2 | exact at3) (by first | assumption | omega)).mono ?_; rintro e w1 ⟨rfl, hS⟩) | (go_at_call 21; refine (qbytes_any (by assumption) _ (by first | exact at0 | exact at1 | exact at2 | exact at3) (by first | assumption | omega)).mono ?_; rintro e w1 ⟨rfl, hS⟩) | (go_at_call 11; refine (known_any (by assumption)).mono ?_; rintro e w1 ⟨rfl, hS⟩))
        exact bodyPost_ret (results_tmp rfl _ _ _) rfl ⟨rfl, Hp.below (by assumption)⟩
  · have hs' : ¬ (n : Int) ≤ 100 := by omega
    go_enter Try.func3, Try.ntmps3
    go_wp2_with (first | (go_at_call 11; refine (known_any (by assumption)).mono ?_; rintro e w1 ⟨rfl, hS⟩))
    exact bodyPost_ret (results_tmp rfl _ _ _) rfl ⟨rfl, Hp.below (by assumption)⟩
end Go.Proofs.Ytmolannefhbnkaa
