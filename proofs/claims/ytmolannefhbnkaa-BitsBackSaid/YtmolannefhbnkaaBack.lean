/- The walk of BitsBack. -/
import Derived.Test.YtmolannefhbnkaaCall
namespace Go.Proofs.Ytmolannefhbnkaa
open Go.RowKit
set_option linter.unusedVariables false
set_option linter.unusedSimpArgs false

theorem back_walk {W : World} {sp : Option Addr} {n cap b o : Nat} {wh nn : Nat → Int} {vv : Nat → Nat} (hin : CallsIn W sp n b o wh nn vv) (hn63 : n ≤ 9223372036854775807) :
    Calls Try.prog 4 #[.slice sp n cap] W fun e w' => e = .returned (.bool true) ∧ Below W.heap.size W w' := by
  have hS := Hp.start W
  by_cases hs : n ≤ 100
  · have HIN := Lib.hid hin
    clear hin
    go_enter Try.func4, Try.ntmps4
    go_wp2_with (first | (go_at_call 12; refine (write_any (by assumption)).mono ?_; rintro e w1 ⟨wb, rfl, hS⟩))
    have HS := Lib.hid (by assumption : Hp W _ [_] _)
    go_loopw [4, 5] (fun all i wr => ∃ c : Nat, i = .int .i64 c ∧ c ≤ n ∧ all = .int .i64 ((outB nn vv c).length : Nat) ∧ Hp W wr [aWr wb (outB nn vv c)] []) (fun _ i _ => n - (intOf i).toNat)
    case atStart => exact ⟨0, rfl, Nat.zero_le _, rfl, HS.out⟩
    case round =>
      obtain ⟨c, rfl, g1, rfl, g2⟩ := hrel
      have hlB := outB_len nn vv c
      obtain ⟨B, hB⟩ : ∃ B, B = outB nn vv c := ⟨_, rfl⟩
      rw [← hB] at g2 hlB ⊢
      by_cases hc : c < n
      · obtain ⟨rfl, hblt⟩ := HIN.out.at_ (by omega)
        have k0 := (g2.below.cell (p := ⟨b, o + c * 3, none⟩) hblt).trans (HIN.out.c0 c hc)
        have k1 := (g2.below.cell (p := ⟨b, o + c * 3 + 1, none⟩) hblt).trans (HIN.out.c1 c hc)
        have k2 := (g2.below.cell (p := ⟨b, o + c * 3 + 2, none⟩) hblt).trans (HIN.out.c2 c hc)
        obtain ⟨u1, u2⟩ := HIN.out.b1 c hc
        have u3 := HIN.out.b2 c hc
        obtain ⟨whc, hwh⟩ : ∃ x, x = wh c := ⟨_, rfl⟩
        obtain ⟨nc, hnc⟩ : ∃ x, x = nn c := ⟨_, rfl⟩
        obtain ⟨vc, hvc⟩ : ∃ x, x = vv c := ⟨_, rfl⟩
        rw [← hwh] at k0; rw [← hnc] at k1 u1 u2; rw [← hvc] at k2 u3
        obtain ⟨F, hF⟩ : ∃ F, F = fitN nc := ⟨_, rfl⟩
        obtain ⟨V, hV⟩ : ∃ V, V = fitV nc vc := ⟨_, rfl⟩
        have hF64 : F ≤ 64 := by rw [hF]; exact fitN_le nc
        have hVlt : V < 2 ^ F := by rw [hF, hV]; exact fitV_lt nc vc
        have hV64 : V < 18446744073709551616 := Nat.lt_of_lt_of_le hVlt (Nat.pow_le_pow_right (n := 2) (j := 64) (i := F) (by omega) hF64)
        have p1 : pE (F : Int) V = 0 := pE_ok hF64 hVlt
        have b1 : pB B (F : Int) V = B ++ bitsN F V := pB_ok hF64 hVlt
        have hB40 : B.length ≤ 2 ^ 40 := by omega
        have hlB2 : B.length ≤ 6400 := by omega
        have HVL := Lib.hid hVlt
        have HB := Lib.hid hB; have HF := Lib.hid hF; have HV := Lib.hid hV; have HNC := Lib.hid hnc; have HVC := Lib.hid hvc; have HWH := Lib.hid hwh
        clear hB hV hF hnc hvc hwh hVlt
        go_wp2_with (first | (go_at_call 22; refine (fit_any whc nc vc u1 u2 u3 _).mono ?_; rw [← HF.out, ← HV.out]; rintro e w1 ⟨rfl, hb⟩; have hS2 := g2.same hb) | (go_at_call 14; refine (put_any (by assumption) _ (by first | exact at0 | exact at1 | exact at2 | exact at3) (by first | assumption | omega) _ _ (by first | assumption | omega)).mono ?_; rintro e w1 ⟨rfl, hS⟩; simp only [set0, set1, set2, set3, b1] at hS))
        have hnext : outB nn vv (c + 1) = B ++ bitsN F V := by rw [outB, HB.out, HF.out, HV.out, HNC.out, HVC.out]
        go_roundw
        case rel => exact ⟨c + 1, by go_num, by omega, ret_i64 (by rw [hnext, List.length_append, bitsN_length]; omega), by rw [hnext]; assumption⟩
        case measure => simp [intOf]; omega
      · obtain rfl : c = n := by omega
        have hB40 : B.length ≤ 2 ^ 41 := by omega
        have hz : (pstr B).size = (B.length + 7) / 8 := pstr_size B
        have hz2 : (strB B).size = B.length := strB_size B
        have h48 : (pstr B).size ≤ 2 ^ 48 := by omega
        obtain ⟨S, hS'⟩ : ∃ S, S = pstr B := ⟨_, rfl⟩
        obtain ⟨T, hT'⟩ : ∃ T, T = strB B := ⟨_, rfl⟩
        rw [← hS'] at hz h48
        rw [← hT'] at hz2
        have hz' : (S.size : Int) = ((B.length : Int) + 7) / 8 := by omega
        have HSE := Lib.hid hS'; have HTE := Lib.hid hT'
        clear hz hS' hT'
        have hlB2 : B.length ≤ 6400 := by omega
        have HB := Lib.hid hB
        clear hB
        go_wp2_with (first | (go_at_call 20; refine (bytes_any (by assumption) _ at0 hB40).mono ?_; rw [← HSE.out]; rintro e w1 ⟨rfl, hS⟩) | (go_at_call 18; refine (wbits_any (by assumption) _ at0 hB40).mono ?_; rw [← HTE.out]; rintro e w1 ⟨rfl, hS⟩) | (go_at_call 16; refine (len_hp (by assumption) _ (by first | exact at0 | exact at1 | exact at2 | exact at3) (by first | assumption | omega)).mono ?_; rintro e w1 ⟨rfl, hS⟩) | (go_at_call 23; refine (read_any (by assumption) _ (by first | assumption | decide)).mono ?_; rintro e w1 ⟨rb, rfl, hS⟩))
        have HS3 := Lib.hid (by assumption : Hp W _ [_, _] _)
        obtain ⟨r1, r2, r3⟩ := pstr_rest B
        rw [← HSE.out] at r1 r2 r3
        have R1 := Lib.hid r1; have R2 := Lib.hid r2; have R3 := Lib.hid r3
        clear r1 r2 r3
        go_loopw [9] (fun i wr => ∃ d : Nat, i = .int .i64 d ∧ d ≤ c ∧ Hp W wr [aRd rb S (outB nn vv d).length, aWr wb B] []) (fun i _ => c - (intOf i).toNat)
        case atStart => exact ⟨0, rfl, Nat.zero_le _, HS3.out⟩
        case round =>
          obtain ⟨d, rfl, f1, f2⟩ := hrel
          by_cases hd : d < c
          · obtain ⟨rfl, hblt⟩ := HIN.out.at_ (by omega)
            have k0 := (f2.below.cell (p := ⟨b, o + d * 3, none⟩) hblt).trans (HIN.out.c0 d hd)
            have k1 := (f2.below.cell (p := ⟨b, o + d * 3 + 1, none⟩) hblt).trans (HIN.out.c1 d hd)
            have k2 := (f2.below.cell (p := ⟨b, o + d * 3 + 2, none⟩) hblt).trans (HIN.out.c2 d hd)
            obtain ⟨u1, u2⟩ := HIN.out.b1 d hd
            have u3 := HIN.out.b2 d hd
            obtain ⟨ob1, ob2⟩ := outB_back nn vv c d hd
            rw [← HB.out, ← HSE.out] at ob1 ob2
            have hnext : outB nn vv (d + 1) = outB nn vv d ++ bitsN (fitN (nn d)) (fitV (nn d) (vv d)) := rfl
            obtain ⟨wd, hwd⟩ : ∃ x, x = wh d := ⟨_, rfl⟩
            obtain ⟨nd, hnd⟩ : ∃ x, x = nn d := ⟨_, rfl⟩
            obtain ⟨vd, hvd⟩ : ∃ x, x = vv d := ⟨_, rfl⟩
            rw [← hwd] at k0; rw [← hnd] at k1 u1 u2 ob1 ob2 hnext; rw [← hvd] at k2 u3 ob1 hnext
            obtain ⟨F, hF⟩ : ∃ F, F = fitN nd := ⟨_, rfl⟩
            obtain ⟨V, hV⟩ : ∃ V, V = fitV nd vd := ⟨_, rfl⟩
            have hF64 : F ≤ 64 := by rw [hF]; exact fitN_le nd
            rw [← hF, ← hV] at ob1 hnext; rw [← hF] at ob2
            obtain ⟨p, hp⟩ : ∃ p, p = (outB nn vv d).length := ⟨_, rfl⟩
            rw [← hp] at f2 ob1 ob2
            have e1 : uE S p (F : Int) = 0 := uE_ok hF64 ob2
            have v1 : uV S p (F : Int) = V := by rw [uV_ok hF64 ob2, ob1]
            have i1 : uI S p (F : Int) = p + F := uI_ok hF64 ob2
            have HN := Lib.hid hnext; have HP := Lib.hid hp; have HF := Lib.hid hF; have HV := Lib.hid hV
            clear hnext hp hF hV ob1 ob2 hwd hnd hvd
            go_wp2_with (first | (go_at_call 22; refine (fit_any wd nd vd u1 u2 u3 _).mono ?_; rw [← HF.out, ← HV.out]; rintro e w1 ⟨rfl, hb⟩; have hS2 := f2.same hb) | (go_at_call 24; refine (u_any (by assumption) _ (by first | exact at0 | exact at1 | exact at2 | exact at3) _).mono ?_; rintro e w1 ⟨rfl, hS⟩; simp only [set0, set1, set2, set3, i1] at hS))
            go_roundw
            case rel => exact ⟨d + 1, by go_num, by omega, by rw [HN.out, List.length_append, bitsN_length, ← HP.out]; assumption⟩
            case measure => simp [intOf]; omega
          · obtain rfl : d = c := by omega
            rw [← HB.out] at f2
            obtain ⟨p, hp⟩ : ∃ p, p = B.length := ⟨_, rfl⟩
            have r1 := R1.out; have r2 := R2.out; have r3 := R3.out
            rw [← hp] at f2 r1 r2 r3 hlB2
            rw [← hp]
            obtain ⟨q, hq⟩ : ∃ q, q = 8 * S.size - p := ⟨_, rfl⟩
            rw [← hq] at r1 r3
            have e1 : uE S p (q : Int) = 0 := uE_ok (by omega) (by omega)
            have v1 : uV S p (q : Int) = 0 := by rw [uV_ok (by omega) (by omega), r3]
            have hq8 : (q : Int) < 8 := by omega
            have HQ := Lib.hid hq
            clear r3 hq hp
            go_wp2_with (first | (go_at_call 26; refine (left_hp (by assumption) _ at0).mono ?_; rw [← HQ.out]; rintro e w1 ⟨rfl, hS⟩) | (go_at_call 25; refine (pos_any (by assumption) _ (by first | exact at0 | exact at1 | exact at2 | exact at3)).mono ?_; rintro e w1 ⟨rfl, rfl⟩) | (go_at_call 24; refine (u_any (by assumption) _ (by first | exact at0 | exact at1 | exact at2 | exact at3) _).mono ?_; rintro e w1 ⟨rfl, hS⟩; simp only [set0, set1, set2, set3] at hS) | (go_at_call 11; refine (known_any (by assumption)).mono ?_; rintro e w1 ⟨rfl, hS⟩))
            exact bodyPost_ret (results_tmp rfl _ _ _) rfl ⟨rfl, Hp.below (by assumption)⟩
  · have hs' : ¬ (n : Int) ≤ 100 := by omega
    go_enter Try.func4, Try.ntmps4
    go_wp2_with (first | (go_at_call 11; refine (known_any (by assumption)).mono ?_; rintro e w1 ⟨rfl, hS⟩))
    exact bodyPost_ret (results_tmp rfl _ _ _) rfl ⟨rfl, Hp.below (by assumption)⟩
end Go.Proofs.Ytmolannefhbnkaa
