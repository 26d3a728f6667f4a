/- The walk of BitsErrors. -/
import Derived.Test.YtmolannefhbnkaaCall
import Derived.Test.YtmolannefhbnkaaQuiet
import Derived.Deep.RegionHeld3
namespace Go.Proofs.Ytmolannefhbnkaa
open Go.RowKit
set_option linter.unusedVariables false
set_option linter.unusedSimpArgs false

set_option maxRecDepth 100000 in
set_option maxHeartbeats 1000000 in
theorem errors_walk {W : World} {sp : Option Addr} {n cap b o : Nat} {wh nn : Nat → Int} {vv : Nat → Nat} (s : ByteArray) (hs0 : s.size ≤ maxLen) (hin : CallsIn W sp n b o wh nn vv) (hn63 : n ≤ 9223372036854775807) :
    Calls Try.prog 5 #[.string s, .slice sp n cap] W fun e w' => e = .returned (.bool true) ∧ Below W.heap.size W w' := by
  have hS := Hp.start W
  by_cases hg : s.size ≤ 200 ∧ n ≤ 40
  · obtain ⟨hs, hn⟩ := hg
    have h48 : s.size ≤ 2 ^ 48 := by omega
    have hsd : decide (200 < s.size) = false := by simp; omega
    have HIN := Lib.hid hin
    clear hin
    go_enter Try.func5, Try.ntmps5
    go_wp2_with (first | (go_at_call 23; refine (read_any (by assumption) _ (by first | assumption | decide)).mono ?_; rintro e w1 ⟨rb, rfl, hS⟩) | (go_at_call 12; refine (write_any (by assumption)).mono ?_; rintro e w1 ⟨wb, rfl, hS⟩))
    have HS := Lib.hid (by assumption : Hp W _ [_, _] _)
    go_loopw [7] (fun i wr => ∃ c p : Nat, ∃ B : List Bool, i = .int .i64 c ∧ c ≤ n ∧ p ≤ 8 * s.size ∧ B.length ≤ 64 * c ∧ Hp W wr [aWr wb B, aRd rb s p] []) (fun i _ => n - (intOf i).toNat)
    case atStart => exact ⟨0, 0, [], rfl, Nat.zero_le _, Nat.zero_le _, by simp, HS.out⟩
    case round =>
      obtain ⟨c, p, B, rfl, g1, g0, gB, g2⟩ := hrel
      by_cases hc : c < n
      · obtain ⟨rfl, hblt⟩ := HIN.out.at_ (by omega)
        have k1 : ∀ w', Below W.heap.size W w' → w'.cell? ⟨b, o + c * 3 + 1, none⟩ = some (.int .i64 (nn c)) := fun w' hb => (hb.cell (p := ⟨b, o + c * 3 + 1, none⟩) hblt).trans (HIN.out.c1 c hc)
        have k2 : ∀ w', Below W.heap.size W w' → w'.cell? ⟨b, o + c * 3 + 2, none⟩ = some (.int .u64 (vv c)) := fun w' hb => (hb.cell (p := ⟨b, o + c * 3 + 2, none⟩) hblt).trans (HIN.out.c2 c hc)
        obtain ⟨u1, u2⟩ := HIN.out.b1 c hc
        have u3 := HIN.out.b2 c hc
        have hO := g2.below
        generalize nn c = N at k1 u1 u2
        generalize vv c = V at k2 u3
        have hB40 : B.length ≤ 2 ^ 40 := by omega
        have hB41 : B.length ≤ 2 ^ 41 := by omega
        by_cases hA : N < 0
        · have hA' : N < 0 ∨ 64 < N := Or.inl hA
          have d0 : decide (0 ≤ N) = false := by simp; omega
          have eF : uE s p N = 3 := if_pos hA'
          have vF : uV s p N = 0 := by unfold uV; rw [eF]; rfl
          have iF : uI s p N = p := by unfold uI; rw [eF]; rfl
          have pF : pE N V = 3 := if_pos hA'
          have bF : pB B N V = B := by unfold pB; rw [pF]; rfl
          have hPP : p ≤ 8 * s.size := by omega
          have hBB : (B).length ≤ 64 * (c + 1) := by first | omega | (rw [List.length_append, bitsN_length]; omega)
          have hBB2 : (B).length ≤ 2 ^ 41 := by omega
          have KX := Lib.hid k1; have KY := Lib.hid k2
          haveI : Nonempty (HpW W [aWr wb B, aRd rb s p] []) := ⟨⟨_, g2⟩⟩
          have kx : ∀ x : HpW W [aWr wb B, aRd rb s p] [], x.w.cell? ⟨b, o + c * 3 + 1, none⟩ = some (.int .i64 N) := fun x => k1 _ x.h.below
          go_wp2_with (first | (go_at_call 25; refine (pos_any (by assumption) _ (by first | exact at0 | exact at1 | exact at2 | exact at3)).mono ?_; rintro e w1 ⟨rfl, rfl⟩) | (go_at_call 16; refine (len_hp (by assumption) _ (by first | exact at0 | exact at1 | exact at2 | exact at3) (by first | assumption | omega)).mono ?_; rintro e w1 ⟨rfl, hS⟩; have hO := hS.below) | (go_at_call 18; refine (wbits_any (by assumption) _ (by first | exact at0 | exact at1 | exact at2 | exact at3) (by first | assumption | omega)).mono ?_; rintro e w1 ⟨rfl, hS⟩; have hO := hS.below))
          refine wp_region_hp (by assumption) (by kernel_rfl) (by kernel_rfl) ?_
          repeat (go_big_quiet_step ((first | (go_at_call 25; exact HpW.call_same (pos_any (HpW.h _) _ (by first | exact at0 | exact at1))) | (go_at_call 26; exact HpW.call (left_hp (HpW.h _) _ (by first | exact at0 | exact at1))) | (go_at_call 16; exact HpW.call (len_hp (HpW.h _) _ (by first | exact at0 | exact at1) (by assumption))) | (go_at_call 18; exact HpW.call (wbits_any (HpW.h _) _ (by first | exact at0 | exact at1) (by assumption))))))
          refine wpQuiet_nil ?_
          rintro _ ⟨⟨wq, hq⟩, rfl⟩
          have hO := hq.below
          go_wp2_with (first | (go_at_call 24; refine (u_any (by assumption) _ (by first | exact at0 | exact at1 | exact at2 | exact at3) _).mono ?_; rintro e w1 ⟨rfl, hS⟩; simp only [set0, set1, set2, set3, iF] at hS; have hO := hS.below))
          have c1 := k1 _ hO
          have c2 := k2 _ hO
          have hq2 := Hp.drew (by assumption : Hp W _ [aWr wb B, aRd rb s p] [])
          have hO2 := hq2.below
          go_region_held3 (fun w' => w'.cell? ⟨b, o + c * 3 + 1, none⟩ = some (.int .i64 N) ∧ w'.cell? ⟨b, o + c * 3 + 2, none⟩ = some (.int .u64 V)) (first | exact ⟨k1 _ (by assumption), k2 _ (by assumption)⟩ | go_keep) (first | (go_at_call 14; refine (put_any (by assumption) _ (by first | exact at0 | exact at1 | exact at2 | exact at3) (by first | assumption | omega) _ _ (by first | assumption | omega)).mono ?_; rintro e w1 ⟨rfl, hS⟩; simp only [set0, set1, set2, set3, bF] at hS; have hO := hS.below))
          go_wp2
          haveI : Nonempty (HpW W [aWr wb B, aRd rb s p] []) := ⟨⟨_, by assumption⟩⟩
          have ky : ∀ x : HpW W [aWr wb B, aRd rb s p] [], x.w.cell? ⟨b, o + c * 3 + 1, none⟩ = some (.int .i64 N) := fun x => k1 _ x.h.below
          refine wp_region_hp (by assumption) (by kernel_rfl) (by kernel_rfl) ?_
          repeat (go_big_quiet_step ((first | (go_at_call 25; exact HpW.call_same (pos_any (HpW.h _) _ (by first | exact at0 | exact at1))) | (go_at_call 26; exact HpW.call (left_hp (HpW.h _) _ (by first | exact at0 | exact at1))) | (go_at_call 16; exact HpW.call (len_hp (HpW.h _) _ (by first | exact at0 | exact at1) (by assumption))) | (go_at_call 18; exact HpW.call (wbits_any (HpW.h _) _ (by first | exact at0 | exact at1) (by assumption))))))
          refine wpQuiet_nil ?_
          rintro _ ⟨⟨wq, hq⟩, rfl⟩
          go_wp2
          refine wp_region_hp (by assumption) (by kernel_rfl) (by kernel_rfl) ?_
          repeat (go_big_quiet_step ((first | (go_at_call 25; exact HpW.call_same (pos_any (HpW.h _) _ (by first | exact at0 | exact at1))) | (go_at_call 26; exact HpW.call (left_hp (HpW.h _) _ (by first | exact at0 | exact at1))) | (go_at_call 16; exact HpW.call (len_hp (HpW.h _) _ (by first | exact at0 | exact at1) (by assumption))) | (go_at_call 18; exact HpW.call (wbits_any (HpW.h _) _ (by first | exact at0 | exact at1) (by assumption))))))
          refine wpQuiet_nil ?_
          rintro _ ⟨⟨wq, hq⟩, rfl⟩
          go_wp2_with (first | (go_at_call 25; refine (pos_any (by assumption) _ (by first | exact at0 | exact at1 | exact at2 | exact at3)).mono ?_; rintro e w1 ⟨rfl, rfl⟩) | (go_at_call 26; refine (left_hp (by assumption) _ (by first | exact at0 | exact at1 | exact at2 | exact at3)).mono ?_; rintro e w1 ⟨rfl, hS⟩; have hO := hS.below))
          go_roundw
          case rel => exact ⟨c + 1, p, B, by go_num, by omega, hPP, hBB, by assumption⟩
          case measure => simp [intOf]; omega
        · by_cases hB : 64 < N
          · have hA' : N < 0 ∨ 64 < N := Or.inr hB
            have d0 : decide (0 ≤ N) = true := by simp; omega
            have d1 : decide (N ≤ 64) = false := by simp; omega
            have eF : uE s p N = 3 := if_pos hA'
            have vF : uV s p N = 0 := by unfold uV; rw [eF]; rfl
            have iF : uI s p N = p := by unfold uI; rw [eF]; rfl
            have pF : pE N V = 3 := if_pos hA'
            have bF : pB B N V = B := by unfold pB; rw [pF]; rfl
            have hPP : p ≤ 8 * s.size := by omega
            have hBB : (B).length ≤ 64 * (c + 1) := by first | omega | (rw [List.length_append, bitsN_length]; omega)
            have hBB2 : (B).length ≤ 2 ^ 41 := by omega
            have KX := Lib.hid k1; have KY := Lib.hid k2
            haveI : Nonempty (HpW W [aWr wb B, aRd rb s p] []) := ⟨⟨_, g2⟩⟩
            have kx : ∀ x : HpW W [aWr wb B, aRd rb s p] [], x.w.cell? ⟨b, o + c * 3 + 1, none⟩ = some (.int .i64 N) := fun x => k1 _ x.h.below
            go_wp2_with (first | (go_at_call 25; refine (pos_any (by assumption) _ (by first | exact at0 | exact at1 | exact at2 | exact at3)).mono ?_; rintro e w1 ⟨rfl, rfl⟩) | (go_at_call 16; refine (len_hp (by assumption) _ (by first | exact at0 | exact at1 | exact at2 | exact at3) (by first | assumption | omega)).mono ?_; rintro e w1 ⟨rfl, hS⟩; have hO := hS.below) | (go_at_call 18; refine (wbits_any (by assumption) _ (by first | exact at0 | exact at1 | exact at2 | exact at3) (by first | assumption | omega)).mono ?_; rintro e w1 ⟨rfl, hS⟩; have hO := hS.below))
            refine wp_region_hp (by assumption) (by kernel_rfl) (by kernel_rfl) ?_
            repeat (go_big_quiet_step ((first | (go_at_call 25; exact HpW.call_same (pos_any (HpW.h _) _ (by first | exact at0 | exact at1))) | (go_at_call 26; exact HpW.call (left_hp (HpW.h _) _ (by first | exact at0 | exact at1))) | (go_at_call 16; exact HpW.call (len_hp (HpW.h _) _ (by first | exact at0 | exact at1) (by assumption))) | (go_at_call 18; exact HpW.call (wbits_any (HpW.h _) _ (by first | exact at0 | exact at1) (by assumption))))))
            refine wpQuiet_nil ?_
            rintro _ ⟨⟨wq, hq⟩, rfl⟩
            have hO := hq.below
            go_wp2_with (first | (go_at_call 24; refine (u_any (by assumption) _ (by first | exact at0 | exact at1 | exact at2 | exact at3) _).mono ?_; rintro e w1 ⟨rfl, hS⟩; simp only [set0, set1, set2, set3, iF] at hS; have hO := hS.below))
            have c1 := k1 _ hO
            have c2 := k2 _ hO
            have hq2 := Hp.drew (by assumption : Hp W _ [aWr wb B, aRd rb s p] [])
            have hO2 := hq2.below
            go_region_held3 (fun w' => w'.cell? ⟨b, o + c * 3 + 1, none⟩ = some (.int .i64 N) ∧ w'.cell? ⟨b, o + c * 3 + 2, none⟩ = some (.int .u64 V)) (first | exact ⟨k1 _ (by assumption), k2 _ (by assumption)⟩ | go_keep) (first | (go_at_call 14; refine (put_any (by assumption) _ (by first | exact at0 | exact at1 | exact at2 | exact at3) (by first | assumption | omega) _ _ (by first | assumption | omega)).mono ?_; rintro e w1 ⟨rfl, hS⟩; simp only [set0, set1, set2, set3, bF] at hS; have hO := hS.below))
            go_wp2
            haveI : Nonempty (HpW W [aWr wb B, aRd rb s p] []) := ⟨⟨_, by assumption⟩⟩
            have ky : ∀ x : HpW W [aWr wb B, aRd rb s p] [], x.w.cell? ⟨b, o + c * 3 + 1, none⟩ = some (.int .i64 N) := fun x => k1 _ x.h.below
            refine wp_region_hp (by assumption) (by kernel_rfl) (by kernel_rfl) ?_
            repeat (go_big_quiet_step ((first | (go_at_call 25; exact HpW.call_same (pos_any (HpW.h _) _ (by first | exact at0 | exact at1))) | (go_at_call 26; exact HpW.call (left_hp (HpW.h _) _ (by first | exact at0 | exact at1))) | (go_at_call 16; exact HpW.call (len_hp (HpW.h _) _ (by first | exact at0 | exact at1) (by assumption))) | (go_at_call 18; exact HpW.call (wbits_any (HpW.h _) _ (by first | exact at0 | exact at1) (by assumption))))))
            refine wpQuiet_nil ?_
            rintro _ ⟨⟨wq, hq⟩, rfl⟩
            go_wp2
            refine wp_region_hp (by assumption) (by kernel_rfl) (by kernel_rfl) ?_
            repeat (go_big_quiet_step ((first | (go_at_call 25; exact HpW.call_same (pos_any (HpW.h _) _ (by first | exact at0 | exact at1))) | (go_at_call 26; exact HpW.call (left_hp (HpW.h _) _ (by first | exact at0 | exact at1))) | (go_at_call 16; exact HpW.call (len_hp (HpW.h _) _ (by first | exact at0 | exact at1) (by assumption))) | (go_at_call 18; exact HpW.call (wbits_any (HpW.h _) _ (by first | exact at0 | exact at1) (by assumption))))))
            refine wpQuiet_nil ?_
            rintro _ ⟨⟨wq, hq⟩, rfl⟩
            go_wp2_with (first | (go_at_call 25; refine (pos_any (by assumption) _ (by first | exact at0 | exact at1 | exact at2 | exact at3)).mono ?_; rintro e w1 ⟨rfl, rfl⟩) | (go_at_call 26; refine (left_hp (by assumption) _ (by first | exact at0 | exact at1 | exact at2 | exact at3)).mono ?_; rintro e w1 ⟨rfl, hS⟩; have hO := hS.below))
            go_roundw
            case rel => exact ⟨c + 1, p, B, by go_num, by omega, hPP, hBB, by assumption⟩
            case measure => simp [intOf]; omega
          · obtain ⟨m, rfl⟩ : ∃ m : Nat, N = (m : Int) := ⟨N.toNat, by omega⟩
            by_cases hf : m < 64 ∧ 2 ^ m ≤ V
            · by_cases hl : 8 * s.size - p < m
              · skip
                have d0 : decide (0 ≤ (m : Int)) = true := by simp
                have d1 : decide ((m : Int) ≤ 64) = true := by simp; omega
                have d2 : decide (8 * s.size - p < m) = true := by simp; omega
                have eF : uE s p (m : Int) = 5 := by unfold uE; rw [if_neg (by omega), if_pos (by omega)]
                have vF : uV s p (m : Int) = 0 := by unfold uV; rw [eF]; rfl
                have iF : uI s p (m : Int) = p := by unfold uI; rw [eF]; rfl
                have pF : pE (m : Int) V = 2 := by unfold pE; rw [if_neg (by omega), if_pos ⟨by omega, by simpa using hf.2⟩]
                have bF : pB B (m : Int) V = B := by unfold pB; rw [pF]; rfl
                clear hf
                have hPP : p ≤ 8 * s.size := by omega
                have hBB : (B).length ≤ 64 * (c + 1) := by first | omega | (rw [List.length_append, bitsN_length]; omega)
                have hBB2 : (B).length ≤ 2 ^ 41 := by omega
                have KX := Lib.hid k1; have KY := Lib.hid k2
                haveI : Nonempty (HpW W [aWr wb B, aRd rb s p] []) := ⟨⟨_, g2⟩⟩
                have kx : ∀ x : HpW W [aWr wb B, aRd rb s p] [], x.w.cell? ⟨b, o + c * 3 + 1, none⟩ = some (.int .i64 (m : Int)) := fun x => k1 _ x.h.below
                go_wp2_with (first | (go_at_call 25; refine (pos_any (by assumption) _ (by first | exact at0 | exact at1 | exact at2 | exact at3)).mono ?_; rintro e w1 ⟨rfl, rfl⟩) | (go_at_call 16; refine (len_hp (by assumption) _ (by first | exact at0 | exact at1 | exact at2 | exact at3) (by first | assumption | omega)).mono ?_; rintro e w1 ⟨rfl, hS⟩; have hO := hS.below) | (go_at_call 18; refine (wbits_any (by assumption) _ (by first | exact at0 | exact at1 | exact at2 | exact at3) (by first | assumption | omega)).mono ?_; rintro e w1 ⟨rfl, hS⟩; have hO := hS.below))
                refine wp_region_hp (by assumption) (by kernel_rfl) (by kernel_rfl) ?_
                repeat (go_big_quiet_step ((first | (go_at_call 25; exact HpW.call_same (pos_any (HpW.h _) _ (by first | exact at0 | exact at1))) | (go_at_call 26; exact HpW.call (left_hp (HpW.h _) _ (by first | exact at0 | exact at1))) | (go_at_call 16; exact HpW.call (len_hp (HpW.h _) _ (by first | exact at0 | exact at1) (by assumption))) | (go_at_call 18; exact HpW.call (wbits_any (HpW.h _) _ (by first | exact at0 | exact at1) (by assumption))))))
                refine wpQuiet_nil ?_
                rintro _ ⟨⟨wq, hq⟩, rfl⟩
                have hO := hq.below
                go_wp2_with (first | (go_at_call 24; refine (u_any (by assumption) _ (by first | exact at0 | exact at1 | exact at2 | exact at3) _).mono ?_; rintro e w1 ⟨rfl, hS⟩; simp only [set0, set1, set2, set3, iF] at hS; have hO := hS.below))
                have c1 := k1 _ hO
                have c2 := k2 _ hO
                have hq2 := Hp.drew (by assumption : Hp W _ [aWr wb B, aRd rb s p] [])
                have hO2 := hq2.below
                go_region_held3 (fun w' => w'.cell? ⟨b, o + c * 3 + 1, none⟩ = some (.int .i64 (m : Int)) ∧ w'.cell? ⟨b, o + c * 3 + 2, none⟩ = some (.int .u64 V)) (first | exact ⟨k1 _ (by assumption), k2 _ (by assumption)⟩ | go_keep) (first | (go_at_call 14; refine (put_any (by assumption) _ (by first | exact at0 | exact at1 | exact at2 | exact at3) (by first | assumption | omega) _ _ (by first | assumption | omega)).mono ?_; rintro e w1 ⟨rfl, hS⟩; simp only [set0, set1, set2, set3, bF] at hS; have hO := hS.below))
                go_wp2
                haveI : Nonempty (HpW W [aWr wb B, aRd rb s p] []) := ⟨⟨_, by assumption⟩⟩
                have ky : ∀ x : HpW W [aWr wb B, aRd rb s p] [], x.w.cell? ⟨b, o + c * 3 + 1, none⟩ = some (.int .i64 (m : Int)) := fun x => k1 _ x.h.below
                refine wp_region_hp (by assumption) (by kernel_rfl) (by kernel_rfl) ?_
                repeat (go_big_quiet_step ((first | (go_at_call 25; exact HpW.call_same (pos_any (HpW.h _) _ (by first | exact at0 | exact at1))) | (go_at_call 26; exact HpW.call (left_hp (HpW.h _) _ (by first | exact at0 | exact at1))) | (go_at_call 16; exact HpW.call (len_hp (HpW.h _) _ (by first | exact at0 | exact at1) (by assumption))) | (go_at_call 18; exact HpW.call (wbits_any (HpW.h _) _ (by first | exact at0 | exact at1) (by assumption))))))
                refine wpQuiet_nil ?_
                rintro _ ⟨⟨wq, hq⟩, rfl⟩
                go_wp2
                refine wp_region_hp (by assumption) (by kernel_rfl) (by kernel_rfl) ?_
                repeat (go_big_quiet_step ((first | (go_at_call 25; exact HpW.call_same (pos_any (HpW.h _) _ (by first | exact at0 | exact at1))) | (go_at_call 26; exact HpW.call (left_hp (HpW.h _) _ (by first | exact at0 | exact at1))) | (go_at_call 16; exact HpW.call (len_hp (HpW.h _) _ (by first | exact at0 | exact at1) (by assumption))) | (go_at_call 18; exact HpW.call (wbits_any (HpW.h _) _ (by first | exact at0 | exact at1) (by assumption))))))
                refine wpQuiet_nil ?_
                rintro _ ⟨⟨wq, hq⟩, rfl⟩
                go_wp2_with (first | (go_at_call 25; refine (pos_any (by assumption) _ (by first | exact at0 | exact at1 | exact at2 | exact at3)).mono ?_; rintro e w1 ⟨rfl, rfl⟩) | (go_at_call 26; refine (left_hp (by assumption) _ (by first | exact at0 | exact at1 | exact at2 | exact at3)).mono ?_; rintro e w1 ⟨rfl, hS⟩; have hO := hS.below))
                go_roundw
                case rel => exact ⟨c + 1, p, B, by go_num, by omega, hPP, hBB, by assumption⟩
                case measure => simp [intOf]; omega
              · skip
                have d0 : decide (0 ≤ (m : Int)) = true := by simp
                have d1 : decide ((m : Int) ≤ 64) = true := by simp; omega
                have d2 : decide (8 * s.size - p < m) = false := by simp; omega
                have eF : uE s p (m : Int) = 0 := uE_ok (by omega) (by omega)
                have iF : uI s p (m : Int) = p + m := uI_ok (by omega) (by omega)
                have pF : pE (m : Int) V = 2 := by unfold pE; rw [if_neg (by omega), if_pos ⟨by omega, by simpa using hf.2⟩]
                have bF : pB B (m : Int) V = B := by unfold pB; rw [pF]; rfl
                clear hf
                have hPP : (p + m) ≤ 8 * s.size := by omega
                have hBB : (B).length ≤ 64 * (c + 1) := by first | omega | (rw [List.length_append, bitsN_length]; omega)
                have hBB2 : (B).length ≤ 2 ^ 41 := by omega
                have KX := Lib.hid k1; have KY := Lib.hid k2
                haveI : Nonempty (HpW W [aWr wb B, aRd rb s p] []) := ⟨⟨_, g2⟩⟩
                have kx : ∀ x : HpW W [aWr wb B, aRd rb s p] [], x.w.cell? ⟨b, o + c * 3 + 1, none⟩ = some (.int .i64 (m : Int)) := fun x => k1 _ x.h.below
                go_wp2_with (first | (go_at_call 25; refine (pos_any (by assumption) _ (by first | exact at0 | exact at1 | exact at2 | exact at3)).mono ?_; rintro e w1 ⟨rfl, rfl⟩) | (go_at_call 16; refine (len_hp (by assumption) _ (by first | exact at0 | exact at1 | exact at2 | exact at3) (by first | assumption | omega)).mono ?_; rintro e w1 ⟨rfl, hS⟩; have hO := hS.below) | (go_at_call 18; refine (wbits_any (by assumption) _ (by first | exact at0 | exact at1 | exact at2 | exact at3) (by first | assumption | omega)).mono ?_; rintro e w1 ⟨rfl, hS⟩; have hO := hS.below))
                refine wp_region_hp (by assumption) (by kernel_rfl) (by kernel_rfl) ?_
                repeat (go_big_quiet_step ((first | (go_at_call 25; exact HpW.call_same (pos_any (HpW.h _) _ (by first | exact at0 | exact at1))) | (go_at_call 26; exact HpW.call (left_hp (HpW.h _) _ (by first | exact at0 | exact at1))) | (go_at_call 16; exact HpW.call (len_hp (HpW.h _) _ (by first | exact at0 | exact at1) (by assumption))) | (go_at_call 18; exact HpW.call (wbits_any (HpW.h _) _ (by first | exact at0 | exact at1) (by assumption))))))
                refine wpQuiet_nil ?_
                rintro _ ⟨⟨wq, hq⟩, rfl⟩
                have hO := hq.below
                go_wp2_with (first | (go_at_call 24; refine (u_any (by assumption) _ (by first | exact at0 | exact at1 | exact at2 | exact at3) _).mono ?_; rintro e w1 ⟨rfl, hS⟩; simp only [set0, set1, set2, set3, iF] at hS; have hO := hS.below))
                have c1 := k1 _ hO
                have c2 := k2 _ hO
                have hq2 := Hp.drew (by assumption : Hp W _ [aWr wb B, aRd rb s (p + m)] [])
                have hO2 := hq2.below
                go_region_held3 (fun w' => w'.cell? ⟨b, o + c * 3 + 1, none⟩ = some (.int .i64 (m : Int)) ∧ w'.cell? ⟨b, o + c * 3 + 2, none⟩ = some (.int .u64 V)) (first | exact ⟨k1 _ (by assumption), k2 _ (by assumption)⟩ | go_keep) (first | (go_at_call 14; refine (put_any (by assumption) _ (by first | exact at0 | exact at1 | exact at2 | exact at3) (by first | assumption | omega) _ _ (by first | assumption | omega)).mono ?_; rintro e w1 ⟨rfl, hS⟩; simp only [set0, set1, set2, set3, bF] at hS; have hO := hS.below))
                go_wp2
                haveI : Nonempty (HpW W [aWr wb B, aRd rb s (p + m)] []) := ⟨⟨_, by assumption⟩⟩
                have ky : ∀ x : HpW W [aWr wb B, aRd rb s (p + m)] [], x.w.cell? ⟨b, o + c * 3 + 1, none⟩ = some (.int .i64 (m : Int)) := fun x => k1 _ x.h.below
                refine wp_region_hp (by assumption) (by kernel_rfl) (by kernel_rfl) ?_
                repeat (go_big_quiet_step ((first | (go_at_call 25; exact HpW.call_same (pos_any (HpW.h _) _ (by first | exact at0 | exact at1))) | (go_at_call 26; exact HpW.call (left_hp (HpW.h _) _ (by first | exact at0 | exact at1))) | (go_at_call 16; exact HpW.call (len_hp (HpW.h _) _ (by first | exact at0 | exact at1) (by assumption))) | (go_at_call 18; exact HpW.call (wbits_any (HpW.h _) _ (by first | exact at0 | exact at1) (by assumption))))))
                refine wpQuiet_nil ?_
                rintro _ ⟨⟨wq, hq⟩, rfl⟩
                go_wp2
                refine wp_region_hp (by assumption) (by kernel_rfl) (by kernel_rfl) ?_
                repeat (go_big_quiet_step ((first | (go_at_call 25; exact HpW.call_same (pos_any (HpW.h _) _ (by first | exact at0 | exact at1))) | (go_at_call 26; exact HpW.call (left_hp (HpW.h _) _ (by first | exact at0 | exact at1))) | (go_at_call 16; exact HpW.call (len_hp (HpW.h _) _ (by first | exact at0 | exact at1) (by assumption))) | (go_at_call 18; exact HpW.call (wbits_any (HpW.h _) _ (by first | exact at0 | exact at1) (by assumption))))))
                refine wpQuiet_nil ?_
                rintro _ ⟨⟨wq, hq⟩, rfl⟩
                go_wp2_with (first | (go_at_call 25; refine (pos_any (by assumption) _ (by first | exact at0 | exact at1 | exact at2 | exact at3)).mono ?_; rintro e w1 ⟨rfl, rfl⟩) | (go_at_call 26; refine (left_hp (by assumption) _ (by first | exact at0 | exact at1 | exact at2 | exact at3)).mono ?_; rintro e w1 ⟨rfl, hS⟩; have hO := hS.below))
                go_roundw
                case rel => exact ⟨c + 1, (p + m), B, by go_num, by omega, hPP, hBB, by assumption⟩
                case measure => simp [intOf]; omega
            · by_cases hl : 8 * s.size - p < m
              · skip
                have d0 : decide (0 ≤ (m : Int)) = true := by simp
                have d1 : decide ((m : Int) ≤ 64) = true := by simp; omega
                have d2 : decide (8 * s.size - p < m) = true := by simp; omega
                have eF : uE s p (m : Int) = 5 := by unfold uE; rw [if_neg (by omega), if_pos (by omega)]
                have vF : uV s p (m : Int) = 0 := by unfold uV; rw [eF]; rfl
                have iF : uI s p (m : Int) = p := by unfold uI; rw [eF]; rfl
                have pF : pE (m : Int) V = 0 := by unfold pE; rw [if_neg (by omega), if_neg (fun hc => hf ⟨by omega, by simpa using hc.2⟩)]
                have bF : pB B (m : Int) V = B ++ bitsN m V := by unfold pB; rw [if_pos pF]; rfl
                clear hf
                have hPP : p ≤ 8 * s.size := by omega
                have hBB : ((B ++ bitsN m V)).length ≤ 64 * (c + 1) := by first | omega | (rw [List.length_append, bitsN_length]; omega)
                have hBB2 : ((B ++ bitsN m V)).length ≤ 2 ^ 41 := by omega
                have KX := Lib.hid k1; have KY := Lib.hid k2
                haveI : Nonempty (HpW W [aWr wb B, aRd rb s p] []) := ⟨⟨_, g2⟩⟩
                have kx : ∀ x : HpW W [aWr wb B, aRd rb s p] [], x.w.cell? ⟨b, o + c * 3 + 1, none⟩ = some (.int .i64 (m : Int)) := fun x => k1 _ x.h.below
                go_wp2_with (first | (go_at_call 25; refine (pos_any (by assumption) _ (by first | exact at0 | exact at1 | exact at2 | exact at3)).mono ?_; rintro e w1 ⟨rfl, rfl⟩) | (go_at_call 16; refine (len_hp (by assumption) _ (by first | exact at0 | exact at1 | exact at2 | exact at3) (by first | assumption | omega)).mono ?_; rintro e w1 ⟨rfl, hS⟩; have hO := hS.below) | (go_at_call 18; refine (wbits_any (by assumption) _ (by first | exact at0 | exact at1 | exact at2 | exact at3) (by first | assumption | omega)).mono ?_; rintro e w1 ⟨rfl, hS⟩; have hO := hS.below))
                refine wp_region_hp (by assumption) (by kernel_rfl) (by kernel_rfl) ?_
                repeat (go_big_quiet_step ((first | (go_at_call 25; exact HpW.call_same (pos_any (HpW.h _) _ (by first | exact at0 | exact at1))) | (go_at_call 26; exact HpW.call (left_hp (HpW.h _) _ (by first | exact at0 | exact at1))) | (go_at_call 16; exact HpW.call (len_hp (HpW.h _) _ (by first | exact at0 | exact at1) (by assumption))) | (go_at_call 18; exact HpW.call (wbits_any (HpW.h _) _ (by first | exact at0 | exact at1) (by assumption))))))
                refine wpQuiet_nil ?_
                rintro _ ⟨⟨wq, hq⟩, rfl⟩
                have hO := hq.below
                go_wp2_with (first | (go_at_call 24; refine (u_any (by assumption) _ (by first | exact at0 | exact at1 | exact at2 | exact at3) _).mono ?_; rintro e w1 ⟨rfl, hS⟩; simp only [set0, set1, set2, set3, iF] at hS; have hO := hS.below))
                have c1 := k1 _ hO
                have c2 := k2 _ hO
                have hq2 := Hp.drew (by assumption : Hp W _ [aWr wb B, aRd rb s p] [])
                have hO2 := hq2.below
                go_region_held3 (fun w' => w'.cell? ⟨b, o + c * 3 + 1, none⟩ = some (.int .i64 (m : Int)) ∧ w'.cell? ⟨b, o + c * 3 + 2, none⟩ = some (.int .u64 V)) (first | exact ⟨k1 _ (by assumption), k2 _ (by assumption)⟩ | go_keep) (first | (go_at_call 14; refine (put_any (by assumption) _ (by first | exact at0 | exact at1 | exact at2 | exact at3) (by first | assumption | omega) _ _ (by first | assumption | omega)).mono ?_; rintro e w1 ⟨rfl, hS⟩; simp only [set0, set1, set2, set3, bF] at hS; have hO := hS.below))
                go_wp2
                haveI : Nonempty (HpW W [aWr wb (B ++ bitsN m V), aRd rb s p] []) := ⟨⟨_, by assumption⟩⟩
                have ky : ∀ x : HpW W [aWr wb (B ++ bitsN m V), aRd rb s p] [], x.w.cell? ⟨b, o + c * 3 + 1, none⟩ = some (.int .i64 (m : Int)) := fun x => k1 _ x.h.below
                refine wp_region_hp (by assumption) (by kernel_rfl) (by kernel_rfl) ?_
                repeat (go_big_quiet_step ((first | (go_at_call 25; exact HpW.call_same (pos_any (HpW.h _) _ (by first | exact at0 | exact at1))) | (go_at_call 26; exact HpW.call (left_hp (HpW.h _) _ (by first | exact at0 | exact at1))) | (go_at_call 16; exact HpW.call (len_hp (HpW.h _) _ (by first | exact at0 | exact at1) (by assumption))) | (go_at_call 18; exact HpW.call (wbits_any (HpW.h _) _ (by first | exact at0 | exact at1) (by assumption))))))
                refine wpQuiet_nil ?_
                rintro _ ⟨⟨wq, hq⟩, rfl⟩
                go_wp2
                refine wp_region_hp (by assumption) (by kernel_rfl) (by kernel_rfl) ?_
                repeat (go_big_quiet_step ((first | (go_at_call 25; exact HpW.call_same (pos_any (HpW.h _) _ (by first | exact at0 | exact at1))) | (go_at_call 26; exact HpW.call (left_hp (HpW.h _) _ (by first | exact at0 | exact at1))) | (go_at_call 16; exact HpW.call (len_hp (HpW.h _) _ (by first | exact at0 | exact at1) (by assumption))) | (go_at_call 18; exact HpW.call (wbits_any (HpW.h _) _ (by first | exact at0 | exact at1) (by assumption))))))
                refine wpQuiet_nil ?_
                rintro _ ⟨⟨wq, hq⟩, rfl⟩
                go_wp2_with (first | (go_at_call 25; refine (pos_any (by assumption) _ (by first | exact at0 | exact at1 | exact at2 | exact at3)).mono ?_; rintro e w1 ⟨rfl, rfl⟩) | (go_at_call 26; refine (left_hp (by assumption) _ (by first | exact at0 | exact at1 | exact at2 | exact at3)).mono ?_; rintro e w1 ⟨rfl, hS⟩; have hO := hS.below))
                go_roundw
                case rel => exact ⟨c + 1, p, (B ++ bitsN m V), by go_num, by omega, hPP, hBB, by assumption⟩
                case measure => simp [intOf]; omega
              · skip
                have d0 : decide (0 ≤ (m : Int)) = true := by simp
                have d1 : decide ((m : Int) ≤ 64) = true := by simp; omega
                have d2 : decide (8 * s.size - p < m) = false := by simp; omega
                have eF : uE s p (m : Int) = 0 := uE_ok (by omega) (by omega)
                have iF : uI s p (m : Int) = p + m := uI_ok (by omega) (by omega)
                have pF : pE (m : Int) V = 0 := by unfold pE; rw [if_neg (by omega), if_neg (fun hc => hf ⟨by omega, by simpa using hc.2⟩)]
                have bF : pB B (m : Int) V = B ++ bitsN m V := by unfold pB; rw [if_pos pF]; rfl
                clear hf
                have hPP : (p + m) ≤ 8 * s.size := by omega
                have hBB : ((B ++ bitsN m V)).length ≤ 64 * (c + 1) := by first | omega | (rw [List.length_append, bitsN_length]; omega)
                have hBB2 : ((B ++ bitsN m V)).length ≤ 2 ^ 41 := by omega
                have KX := Lib.hid k1; have KY := Lib.hid k2
                haveI : Nonempty (HpW W [aWr wb B, aRd rb s p] []) := ⟨⟨_, g2⟩⟩
                have kx : ∀ x : HpW W [aWr wb B, aRd rb s p] [], x.w.cell? ⟨b, o + c * 3 + 1, none⟩ = some (.int .i64 (m : Int)) := fun x => k1 _ x.h.below
                go_wp2_with (first | (go_at_call 25; refine (pos_any (by assumption) _ (by first | exact at0 | exact at1 | exact at2 | exact at3)).mono ?_; rintro e w1 ⟨rfl, rfl⟩) | (go_at_call 16; refine (len_hp (by assumption) _ (by first | exact at0 | exact at1 | exact at2 | exact at3) (by first | assumption | omega)).mono ?_; rintro e w1 ⟨rfl, hS⟩; have hO := hS.below) | (go_at_call 18; refine (wbits_any (by assumption) _ (by first | exact at0 | exact at1 | exact at2 | exact at3) (by first | assumption | omega)).mono ?_; rintro e w1 ⟨rfl, hS⟩; have hO := hS.below))
                refine wp_region_hp (by assumption) (by kernel_rfl) (by kernel_rfl) ?_
                repeat (go_big_quiet_step ((first | (go_at_call 25; exact HpW.call_same (pos_any (HpW.h _) _ (by first | exact at0 | exact at1))) | (go_at_call 26; exact HpW.call (left_hp (HpW.h _) _ (by first | exact at0 | exact at1))) | (go_at_call 16; exact HpW.call (len_hp (HpW.h _) _ (by first | exact at0 | exact at1) (by assumption))) | (go_at_call 18; exact HpW.call (wbits_any (HpW.h _) _ (by first | exact at0 | exact at1) (by assumption))))))
                refine wpQuiet_nil ?_
                rintro _ ⟨⟨wq, hq⟩, rfl⟩
                have hO := hq.below
                go_wp2_with (first | (go_at_call 24; refine (u_any (by assumption) _ (by first | exact at0 | exact at1 | exact at2 | exact at3) _).mono ?_; rintro e w1 ⟨rfl, hS⟩; simp only [set0, set1, set2, set3, iF] at hS; have hO := hS.below))
                have c1 := k1 _ hO
                have c2 := k2 _ hO
                have hq2 := Hp.drew (by assumption : Hp W _ [aWr wb B, aRd rb s (p + m)] [])
                have hO2 := hq2.below
                go_region_held3 (fun w' => w'.cell? ⟨b, o + c * 3 + 1, none⟩ = some (.int .i64 (m : Int)) ∧ w'.cell? ⟨b, o + c * 3 + 2, none⟩ = some (.int .u64 V)) (first | exact ⟨k1 _ (by assumption), k2 _ (by assumption)⟩ | go_keep) (first | (go_at_call 14; refine (put_any (by assumption) _ (by first | exact at0 | exact at1 | exact at2 | exact at3) (by first | assumption | omega) _ _ (by first | assumption | omega)).mono ?_; rintro e w1 ⟨rfl, hS⟩; simp only [set0, set1, set2, set3, bF] at hS; have hO := hS.below))
                go_wp2
                haveI : Nonempty (HpW W [aWr wb (B ++ bitsN m V), aRd rb s (p + m)] []) := ⟨⟨_, by assumption⟩⟩
                have ky : ∀ x : HpW W [aWr wb (B ++ bitsN m V), aRd rb s (p + m)] [], x.w.cell? ⟨b, o + c * 3 + 1, none⟩ = some (.int .i64 (m : Int)) := fun x => k1 _ x.h.below
                refine wp_region_hp (by assumption) (by kernel_rfl) (by kernel_rfl) ?_
                repeat (go_big_quiet_step ((first | (go_at_call 25; exact HpW.call_same (pos_any (HpW.h _) _ (by first | exact at0 | exact at1))) | (go_at_call 26; exact HpW.call (left_hp (HpW.h _) _ (by first | exact at0 | exact at1))) | (go_at_call 16; exact HpW.call (len_hp (HpW.h _) _ (by first | exact at0 | exact at1) (by assumption))) | (go_at_call 18; exact HpW.call (wbits_any (HpW.h _) _ (by first | exact at0 | exact at1) (by assumption))))))
                refine wpQuiet_nil ?_
                rintro _ ⟨⟨wq, hq⟩, rfl⟩
                go_wp2
                refine wp_region_hp (by assumption) (by kernel_rfl) (by kernel_rfl) ?_
                repeat (go_big_quiet_step ((first | (go_at_call 25; exact HpW.call_same (pos_any (HpW.h _) _ (by first | exact at0 | exact at1))) | (go_at_call 26; exact HpW.call (left_hp (HpW.h _) _ (by first | exact at0 | exact at1))) | (go_at_call 16; exact HpW.call (len_hp (HpW.h _) _ (by first | exact at0 | exact at1) (by assumption))) | (go_at_call 18; exact HpW.call (wbits_any (HpW.h _) _ (by first | exact at0 | exact at1) (by assumption))))))
                refine wpQuiet_nil ?_
                rintro _ ⟨⟨wq, hq⟩, rfl⟩
                go_wp2_with (first | (go_at_call 25; refine (pos_any (by assumption) _ (by first | exact at0 | exact at1 | exact at2 | exact at3)).mono ?_; rintro e w1 ⟨rfl, rfl⟩) | (go_at_call 26; refine (left_hp (by assumption) _ (by first | exact at0 | exact at1 | exact at2 | exact at3)).mono ?_; rintro e w1 ⟨rfl, hS⟩; have hO := hS.below))
                go_roundw
                case rel => exact ⟨c + 1, (p + m), (B ++ bitsN m V), by go_num, by omega, hPP, hBB, by assumption⟩
                case measure => simp [intOf]; omega
      · obtain rfl : c = n := by omega
        go_wp2_with (first | (go_at_call 11; refine (known_any (by assumption)).mono ?_; rintro e w1 ⟨rfl, hS⟩))
        exact bodyPost_ret (results_tmp rfl _ _ _) rfl ⟨rfl, Hp.below (by assumption)⟩
  · by_cases hs : s.size ≤ 200
    · have hsd : decide (200 < s.size) = false := by simp; omega
      have hs' : ¬ (n : Int) ≤ 40 := by omega
      go_enter Try.func5, Try.ntmps5
      go_wp2_with (first | (go_at_call 11; refine (known_any (by assumption)).mono ?_; rintro e w1 ⟨rfl, hS⟩))
      exact bodyPost_ret (results_tmp rfl _ _ _) rfl ⟨rfl, Hp.below (by assumption)⟩
    · have hsd : decide (200 < s.size) = true := by simp; omega
      go_enter Try.func5, Try.ntmps5
      go_wp2_with (first | (go_at_call 11; refine (known_any (by assumption)).mono ?_; rintro e w1 ⟨rfl, hS⟩))
      exact bodyPost_ret (results_tmp rfl _ _ _) rfl ⟨rfl, Hp.below (by assumption)⟩
end Go.Proofs.Ytmolannefhbnkaa
