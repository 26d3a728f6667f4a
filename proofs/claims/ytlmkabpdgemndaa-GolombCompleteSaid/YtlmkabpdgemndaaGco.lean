/- The walk of GolombComplete. -/
import Derived.Test.YtlmkabpdgemndaaLen
import Derived.Deep.LoopGhost
namespace Go.Proofs.Ytlmkabpdgemndaa
open Go.RowKit
set_option linter.unusedVariables false
set_option maxRecDepth 100000
set_option linter.unusedSimpArgs false

theorem seg_seg {S : List Bool} {n c k : Nat} (h : c + k ≤ n) : seg (seg S 0 n) c k = seg S c k := by
  simp only [seg, List.drop_zero, List.drop_take, List.take_take]
  rw [Nat.min_eq_left (by omega)]
theorem pre_bits {s : ByteArray} {B : List Bool} {c : Nat} (hB : B = seg (sbits s) 0 B.length) (hl : B.length ≤ 8 * s.size) (hc : c < B.length) :
    uE s c 1 = 0 ∧ uE (pstr B) c 1 = 0 ∧ uV s c 1 = uV (pstr B) c 1 := by
  have e1 : uE s c 1 = 0 := uE_one.2 (by omega)
  have e2 : uE (pstr B) c 1 = 0 := uE_one.2 (by rw [pstr_size]; omega)
  refine ⟨e1, e2, ?_⟩
  unfold uV
  rw [if_pos e1, if_pos e2, sbits_pstr]
  show natB (seg (sbits s) c 1) = natB (seg (B ++ _) c 1)
  rw [seg_append_left (by omega)]
  conv => rhs; rw [hB]
  rw [seg_seg (by omega)]
theorem left_as {W w : World} {L : List AObj} {F : List (Nat × Obj)} (h : Hp W w L F) (k : Nat) {b : Nat} {s : ByteArray} {i l : Nat} (hk : L[k]? = some (aRd b s i)) (hl : l = 8 * s.size - i) :
    Calls Try.prog 16 #[.pointer (some ⟨b, 0, none⟩)] w fun e w' => e = .returned (.int .i64 (l : Int)) ∧ Hp W w' L F := by subst hl; exact left_hp h k hk
/-- What Ue reads is written with the bits that were read. -/
theorem ue_bits {s : ByteArray} {i : Nat} (h : ueE s i = 0) : ueB (ueV s i) = seg (sbits s) i (2 * gz s i + 1) ∧ ueI s i = i + (2 * gz s i + 1) ∧ i + (2 * gz s i + 1) ≤ 8 * s.size := by
  have h0 : lnE s i = 0 := by
    by_cases hc : lnE s i = 0
    · exact hc
    · exact absurd ((ueE_not hc).1.symm.trans h) hc
  obtain ⟨h32, h1, _⟩ := lnE_zero_gz h0
  have hl : i + (2 * gz s i + 1) ≤ 8 * s.size := by
    have h' := h
    unfold ueE at h'
    rw [if_neg (by omega), uE_nat (by omega)] at h'
    by_cases c3 : 8 * s.size - i < 2 * gz s i + 1
    · rw [if_pos c3] at h'; simp at h'
    · rw [uE_one] at h1; omega
  have hs := seg_head h0 (gz s i) (Nat.le_refl _) (by omega)
  have hb := natB_lt (seg (sbits s) (i + gz s i + 1) (gz s i))
  rw [seg_length (by rw [sbits_length]; omega)] at hb
  rw [show gz s i + 1 + gz s i = 2 * gz s i + 1 by omega] at hs
  have hv : ueV s i + 1 = natB (seg (sbits s) i (2 * gz s i + 1)) := by
    unfold ueV; rw [if_pos h, hs]; have := Nat.one_le_two_pow (n := gz s i); omega
  have hN : ueN (ueV s i) = gz s i := ueN_of (by rw [hv, hs]; omega) (by rw [hv, hs, Nat.pow_succ]; omega)
  refine ⟨?_, by unfold ueI; rw [if_pos h], hl⟩
  unfold ueB
  rw [hN, hv]
  have := bitsN_natB (seg (sbits s) i (2 * gz s i + 1))
  rwa [seg_length (by rw [sbits_length]; omega)] at this

set_option maxHeartbeats 2000000 in
theorem gcomplete_walk {W : World} (s : ByteArray) (hs0 : s.size ≤ maxLen) :
    Calls Try.prog 3 #[.string s] W fun e w' => e = .returned (.bool true) ∧ Below W.heap.size W w' := by
  have hS := Hp.start W
  by_cases hs : s.size ≤ 60
  · have h48 : s.size ≤ 2 ^ 48 := by omega
    have hsd : decide (60 < s.size) = false := by simp; omega
    go_enter Try.func3, Try.ntmps3
    go_wp2_with (first | (go_at_call 12; (with_reducible refine (read_any hS s h48).mono ?_); rintro e w1 ⟨rb, rfl, hS1⟩; clear hS) | (go_at_call 13; (with_reducible refine (write_any hS1).mono ?_); rintro e w1 ⟨wb, rfl, hS2⟩; clear hS1))
    have HS := Lib.hid hS2; clear hS2
    go_loopg [5] (8 * s.size) (fun g n' wr => ∃ B : List Bool, g = 8 * s.size - B.length ∧ B.length ≤ 8 * s.size ∧ Hid (B = seg (sbits s) 0 B.length) ∧ Hp W wr [aWr wb B, aRd rb s B.length] [])
    case atStart => exact ⟨[], rfl, Nat.zero_le _, Lib.hid (by simp), HS.out⟩
    case round =>
      obtain ⟨B, rfl, hBl, HB, g2⟩ := hrel
      have hB40 : B.length ≤ 2 ^ 40 := by omega
      have hB41 : B.length ≤ 2 ^ 41 := by omega
      have hps : (pstr B).size ≤ 2 ^ 48 := by rw [pstr_size]; omega
      have HZ : Hid (Zs s B.length (gz s B.length)) := Lib.hid zr_zs
      obtain ⟨Lf, hLf⟩ : ∃ l, l = 8 * s.size - B.length := ⟨_, rfl⟩
      have hLb : Lf ≤ 480 := by omega
      have HLf := Lib.hid hLf
      by_cases hG : gz s B.length = 32
      · have u1 : ueE s B.length = 4 := by unfold ueE; rw [if_pos hG]
        have u2 : ueV s B.length = 0 := by unfold ueV; rw [u1]; rfl
        have u3 : ueI s B.length = B.length := by unfold ueI; rw [u1]; rfl
        have UX := Lib.hid (And.intro u1 (And.intro u2 u3)); clear u1 u2 u3
        have HG := Lib.hid hG; clear hG
        go_wp2_with (first | (go_at_call 14; (with_reducible refine (copy_any g2 1 at1).mono ?_); rintro e w1 ⟨cb, rfl, h1⟩; clear g2))
        have H1 := Lib.hid h1; clear h1
        go_loopw [5] (fun n' wx => ∃ z : Nat, n' = .int .i64 z ∧ z ≤ gz s B.length ∧ Hp W wx [aRd cb s (B.length + z), aWr wb B, aRd rb s B.length] []) (fun n' _ => 32 - (intOf n').toNat)
        case atStart => exact ⟨0, rfl, Nat.zero_le _, H1.out⟩
        case round =>
          obtain ⟨z, rfl, hzl, hz⟩ := hrel
          by_cases hlt : z < gz s B.length
          · obtain ⟨e1, e2⟩ := HZ.out z hlt
            have i1 : uI s (B.length + z) 1 = B.length + (z + 1) := by unfold uI; rw [if_pos e1]; show B.length + z + 1 = _; omega
            have R := Lib.hid (And.intro i1 (And.intro e1 e2)); clear i1 e1 e2
            have hz32 : z < 32 := by have := gz_le s B.length; omega
            go_wp2_with (first | (go_at_call 15; (with_reducible refine (bit_any hz 0 at0).mono ?_); rintro e w1 ⟨rfl, hz1⟩; simp only [set0, R.out.1, R.out.2.1, R.out.2.2] at hz1 ⊢; clear hz))
            go_roundw
            case rel => exact ⟨z + 1, by go_num, by omega, hz1⟩
            case measure => simp [intOf]; omega
          · obtain rfl : z = gz s B.length := by omega
            have hG' := HG.out
            rw [hG'] at hz
            clear hlt hzl hLf
            simp only [hG']
            go_wp2_with (first | (go_at_call 16; (with_reducible refine (left_as hz 2 at2 HLf.out).mono ?_); rintro e w1 ⟨rfl, h4⟩; clear hz) | (go_at_call 17; (with_reducible refine (gue_any h4 2 at2).mono ?_); rintro e w1 ⟨rfl, hE⟩; simp only [set2, UX.out.1, UX.out.2.1, UX.out.2.2] at hE ⊢; clear h4))

            have hT := hE.tail
            clear hE
            go_wp2_with (first | (go_at_call 12; (with_reducible refine (read_any hT s h48).mono ?_); rintro e w1 ⟨nb, rfl, hT1⟩; clear hT) | (go_at_call 19; (with_reducible refine (bytes_any hT1 1 at1 hB41).mono ?_); rintro e w1 ⟨rfl, hT2⟩; clear hT1) | (go_at_call 12; (with_reducible refine (read_any hT2 (pstr B) hps).mono ?_); rintro e w1 ⟨tb, rfl, hT3⟩; clear hT2))
            have HT := Lib.hid hT3; clear hT3
            go_loopw [14] (fun i wx => ∃ c : Nat, i = .int .i64 c ∧ c ≤ B.length ∧ Hp W wx [aRd tb (pstr B) c, aRd nb s c, aWr wb B, aRd rb s B.length] []) (fun i _ => B.length - (intOf i).toNat)
            case atStart => exact ⟨0, rfl, Nat.zero_le _, HT.out⟩
            case round =>
              obtain ⟨c, rfl, q1, q2⟩ := hrel
              by_cases hc : c < B.length
              · obtain ⟨e1, e2, e3⟩ := pre_bits HB.out hBl hc
                have i1 : uI s c 1 = c + 1 := by unfold uI; rw [if_pos e1]; rfl
                have i2 : uI (pstr B) c 1 = c + 1 := by unfold uI; rw [if_pos e2]; rfl
                have R := Lib.hid (And.intro i1 (And.intro i2 e3)); clear i1 i2 e1 e2 e3
                go_wp2_with (first | (go_at_call 20; (with_reducible refine (len_hp q2 2 at2 hB41).mono ?_); rintro e w1 ⟨rfl, q3⟩; clear q2) | (go_at_call 15; (with_reducible refine (bit_any q3 1 at1).mono ?_); rintro e w1 ⟨rfl, q4⟩; simp only [set1, R.out.1, R.out.2.2] at q4 ⊢; clear q3) | (go_at_call 15; (with_reducible refine (bit_any q4 0 at0).mono ?_); rintro e w1 ⟨rfl, q5⟩; simp only [set0, R.out.2.1] at q5; clear q4))
                go_roundw
                case rel => exact ⟨c + 1, by go_num, by omega, q5⟩
                case measure => simp [intOf]; omega
              · obtain rfl : c = B.length := by omega
                go_wp2_with (first | (go_at_call 20; (with_reducible refine (len_hp q2 2 at2 hB41).mono ?_); rintro e w1 ⟨rfl, q3⟩; clear q2) | (go_at_call 21; (with_reducible refine (pos_any q3 3 at3).mono ?_); rintro e w1 ⟨rfl, rfl⟩) | (go_at_call 20; (with_reducible refine (len_hp q3 2 at2 hB41).mono ?_); rintro e w1 ⟨rfl, q4⟩; clear q3) | (go_at_call 11; (with_reducible refine (gknown_any q4).mono ?_); rintro e w1 ⟨rfl, q5⟩))
                exact bodyPost_ret (results_tmp rfl _ _ _) rfl ⟨rfl, q5.below⟩
      · replace hG : gz s B.length < 32 := by have := gz_le s B.length; omega
        by_cases hsh : 8 * s.size - B.length < 2 * gz s B.length + 1
        · have u1 : ueE s B.length = 5 := by unfold ueE; rw [if_neg (by omega), uE_nat (by omega), if_pos hsh]
          have u2 : ueV s B.length = 0 := by unfold ueV; rw [u1]; rfl
          have u3 : ueI s B.length = B.length := by unfold ueI; rw [u1]; rfl
          have UX := Lib.hid (And.intro u1 (And.intro u2 u3)); clear u1 u2 u3
          go_wp2_with (first | (go_at_call 14; (with_reducible refine (copy_any g2 1 at1).mono ?_); rintro e w1 ⟨cb, rfl, h1⟩; clear g2))
          have H1 := Lib.hid h1; clear h1
          go_loopw [5] (fun n' wx => ∃ z : Nat, n' = .int .i64 z ∧ z ≤ gz s B.length ∧ Hp W wx [aRd cb s (B.length + z), aWr wb B, aRd rb s B.length] []) (fun n' _ => 32 - (intOf n').toNat)
          case atStart => exact ⟨0, rfl, Nat.zero_le _, H1.out⟩
          case round =>
            obtain ⟨z, rfl, hzl, hz⟩ := hrel
            by_cases hlt : z < gz s B.length
            · obtain ⟨e1, e2⟩ := HZ.out z hlt
              have i1 : uI s (B.length + z) 1 = B.length + (z + 1) := by unfold uI; rw [if_pos e1]; show B.length + z + 1 = _; omega
              have R := Lib.hid (And.intro i1 (And.intro e1 e2)); clear i1 e1 e2
              have hz32 : z < 32 := by have := gz_le s B.length; omega
              go_wp2_with (first | (go_at_call 15; (with_reducible refine (bit_any hz 0 at0).mono ?_); rintro e w1 ⟨rfl, hz1⟩; simp only [set0, R.out.1, R.out.2.1, R.out.2.2] at hz1 ⊢; clear hz))
              go_roundw
              case rel => exact ⟨z + 1, by go_num, by omega, hz1⟩
              case measure => simp [intOf]; omega
            · obtain rfl : z = gz s B.length := by omega
              by_cases e1 : uE s (B.length + gz s B.length) 1 = 0
              · have e2 : uV s (B.length + gz s B.length) 1 = 1 := by
                  have h1 := uV_one_le s (B.length + gz s B.length)
                  have h2 := zr_end (s := s) (f := 32) (i := B.length) hG
                  have h3 : uV s (B.length + gz s B.length) 1 ≠ 0 := fun c => h2 ⟨e1, c⟩
                  omega
                have R := Lib.hid (And.intro e1 e2); clear e1 e2
                obtain ⟨G, hGe⟩ : ∃ G, G = gz s B.length := ⟨_, rfl⟩
                rw [← hGe] at hz hG hsh R
                simp only [← hGe]
                have HGe := Lib.hid hGe; clear hGe hlt hzl
                rw [← HLf.out] at hsh
                clear hLf
                have hGi : ((G : Int) == 32) = false := by simp; omega
                have hs2 : decide ((Lf : Int) < 2 * (G : Int) + 1) = true := by simp; omega
                go_wp2_with (first | (go_at_call 15; (with_reducible refine (bit_any hz 0 at0).mono ?_); rintro e w1 ⟨rfl, hz1⟩; simp only [set0, R.out.1, R.out.2] at hz1 ⊢; clear hz) | (go_at_call 16; (with_reducible refine (left_as hz1 2 at2 HLf.out).mono ?_); rintro e w1 ⟨rfl, h4⟩; clear hz1) | (go_at_call 17; (with_reducible refine (gue_any h4 2 at2).mono ?_); rintro e w1 ⟨rfl, hE⟩; simp only [set2, UX.out.1, UX.out.2.1, UX.out.2.2] at hE ⊢; clear h4))
                have hT := hE.tail
                clear hE
                go_wp2_with (first | (go_at_call 12; (with_reducible refine (read_any hT s h48).mono ?_); rintro e w1 ⟨nb, rfl, hT1⟩; clear hT) | (go_at_call 19; (with_reducible refine (bytes_any hT1 1 at1 hB41).mono ?_); rintro e w1 ⟨rfl, hT2⟩; clear hT1) | (go_at_call 12; (with_reducible refine (read_any hT2 (pstr B) hps).mono ?_); rintro e w1 ⟨tb, rfl, hT3⟩; clear hT2))
                have HT := Lib.hid hT3; clear hT3
                go_loopw [14] (fun i wx => ∃ c : Nat, i = .int .i64 c ∧ c ≤ B.length ∧ Hp W wx [aRd tb (pstr B) c, aRd nb s c, aWr wb B, aRd rb s B.length] []) (fun i _ => B.length - (intOf i).toNat)
                case atStart => exact ⟨0, rfl, Nat.zero_le _, HT.out⟩
                case round =>
                  obtain ⟨c, rfl, q1, q2⟩ := hrel
                  by_cases hc : c < B.length
                  · obtain ⟨e1, e2, e3⟩ := pre_bits HB.out hBl hc
                    have i1 : uI s c 1 = c + 1 := by unfold uI; rw [if_pos e1]; rfl
                    have i2 : uI (pstr B) c 1 = c + 1 := by unfold uI; rw [if_pos e2]; rfl
                    have R := Lib.hid (And.intro i1 (And.intro i2 e3)); clear i1 i2 e1 e2 e3
                    go_wp2_with (first | (go_at_call 20; (with_reducible refine (len_hp q2 2 at2 hB41).mono ?_); rintro e w1 ⟨rfl, q3⟩; clear q2) | (go_at_call 15; (with_reducible refine (bit_any q3 1 at1).mono ?_); rintro e w1 ⟨rfl, q4⟩; simp only [set1, R.out.1, R.out.2.2] at q4 ⊢; clear q3) | (go_at_call 15; (with_reducible refine (bit_any q4 0 at0).mono ?_); rintro e w1 ⟨rfl, q5⟩; simp only [set0, R.out.2.1] at q5; clear q4))
                    go_roundw
                    case rel => exact ⟨c + 1, by go_num, by omega, q5⟩
                    case measure => simp [intOf]; omega
                  · obtain rfl : c = B.length := by omega
                    go_wp2_with (first | (go_at_call 20; (with_reducible refine (len_hp q2 2 at2 hB41).mono ?_); rintro e w1 ⟨rfl, q3⟩; clear q2) | (go_at_call 21; (with_reducible refine (pos_any q3 3 at3).mono ?_); rintro e w1 ⟨rfl, rfl⟩) | (go_at_call 20; (with_reducible refine (len_hp q3 2 at2 hB41).mono ?_); rintro e w1 ⟨rfl, q4⟩; clear q3) | (go_at_call 11; (with_reducible refine (gknown_any q4).mono ?_); rintro e w1 ⟨rfl, q5⟩))
                    exact bodyPost_ret (results_tmp rfl _ _ _) rfl ⟨rfl, q5.below⟩
              · have e5 := uE_one5 e1
                have R := Lib.hid e5; clear e1 e5
                obtain ⟨G, hGe⟩ : ∃ G, G = gz s B.length := ⟨_, rfl⟩
                rw [← hGe] at hz hG hsh R
                simp only [← hGe]
                have HGe := Lib.hid hGe; clear hGe hlt hzl
                rw [← HLf.out] at hsh
                clear hLf
                have hGi : ((G : Int) == 32) = false := by simp; omega
                have hs2 : decide ((Lf : Int) < 2 * (G : Int) + 1) = true := by simp; omega
                go_wp2_with (first | (go_at_call 15; (with_reducible refine (bit_any hz 0 at0).mono ?_); rintro e w1 ⟨rfl, hz1⟩; simp only [set0, R.out] at hz1 ⊢; clear hz) | (go_at_call 16; (with_reducible refine (left_as hz1 2 at2 HLf.out).mono ?_); rintro e w1 ⟨rfl, h4⟩; clear hz1) | (go_at_call 17; (with_reducible refine (gue_any h4 2 at2).mono ?_); rintro e w1 ⟨rfl, hE⟩; simp only [set2, UX.out.1, UX.out.2.1, UX.out.2.2] at hE ⊢; clear h4))
                have hT := hE.tail
                clear hE
                go_wp2_with (first | (go_at_call 12; (with_reducible refine (read_any hT s h48).mono ?_); rintro e w1 ⟨nb, rfl, hT1⟩; clear hT) | (go_at_call 19; (with_reducible refine (bytes_any hT1 1 at1 hB41).mono ?_); rintro e w1 ⟨rfl, hT2⟩; clear hT1) | (go_at_call 12; (with_reducible refine (read_any hT2 (pstr B) hps).mono ?_); rintro e w1 ⟨tb, rfl, hT3⟩; clear hT2))
                have HT := Lib.hid hT3; clear hT3
                go_loopw [14] (fun i wx => ∃ c : Nat, i = .int .i64 c ∧ c ≤ B.length ∧ Hp W wx [aRd tb (pstr B) c, aRd nb s c, aWr wb B, aRd rb s B.length] []) (fun i _ => B.length - (intOf i).toNat)
                case atStart => exact ⟨0, rfl, Nat.zero_le _, HT.out⟩
                case round =>
                  obtain ⟨c, rfl, q1, q2⟩ := hrel
                  by_cases hc : c < B.length
                  · obtain ⟨e1, e2, e3⟩ := pre_bits HB.out hBl hc
                    have i1 : uI s c 1 = c + 1 := by unfold uI; rw [if_pos e1]; rfl
                    have i2 : uI (pstr B) c 1 = c + 1 := by unfold uI; rw [if_pos e2]; rfl
                    have R := Lib.hid (And.intro i1 (And.intro i2 e3)); clear i1 i2 e1 e2 e3
                    go_wp2_with (first | (go_at_call 20; (with_reducible refine (len_hp q2 2 at2 hB41).mono ?_); rintro e w1 ⟨rfl, q3⟩; clear q2) | (go_at_call 15; (with_reducible refine (bit_any q3 1 at1).mono ?_); rintro e w1 ⟨rfl, q4⟩; simp only [set1, R.out.1, R.out.2.2] at q4 ⊢; clear q3) | (go_at_call 15; (with_reducible refine (bit_any q4 0 at0).mono ?_); rintro e w1 ⟨rfl, q5⟩; simp only [set0, R.out.2.1] at q5; clear q4))
                    go_roundw
                    case rel => exact ⟨c + 1, by go_num, by omega, q5⟩
                    case measure => simp [intOf]; omega
                  · obtain rfl : c = B.length := by omega
                    go_wp2_with (first | (go_at_call 20; (with_reducible refine (len_hp q2 2 at2 hB41).mono ?_); rintro e w1 ⟨rfl, q3⟩; clear q2) | (go_at_call 21; (with_reducible refine (pos_any q3 3 at3).mono ?_); rintro e w1 ⟨rfl, rfl⟩) | (go_at_call 20; (with_reducible refine (len_hp q3 2 at2 hB41).mono ?_); rintro e w1 ⟨rfl, q4⟩; clear q3) | (go_at_call 11; (with_reducible refine (gknown_any q4).mono ?_); rintro e w1 ⟨rfl, q5⟩))
                    exact bodyPost_ret (results_tmp rfl _ _ _) rfl ⟨rfl, q5.below⟩
        · have u1 : ueE s B.length = 0 := by unfold ueE; rw [if_neg (by omega), uE_nat (by omega), if_neg hsh]
          obtain ⟨v1, v2, v3⟩ := ue_bits u1
          have hV := ueV_lt s B.length
          obtain ⟨V, hVe⟩ : ∃ V, V = ueV s B.length := ⟨_, rfl⟩
          rw [← hVe] at v1 hV
          have hV64 : V < 18446744073709551616 := by omega
          have p1 : pueE V = 0 := if_neg (by omega)
          have p2 : pueB B V = B ++ ueB V := by unfold pueB; rw [if_pos p1]
          have hl : (B ++ ueB V).length = B.length + (2 * gz s B.length + 1) := by rw [List.length_append, v1, seg_length (by rw [sbits_length]; omega)]
          have NB : Hid (8 * s.size - (B ++ ueB V).length < 8 * s.size - B.length ∧ (B ++ ueB V).length ≤ 8 * s.size ∧ Hid ((B ++ ueB V) = seg (sbits s) 0 (B ++ ueB V).length) ∧ (B ++ ueB V).length = ueI s B.length) :=
            Lib.hid ⟨by rw [hl]; omega, by rw [hl]; omega, Lib.hid (by
              rw [hl, v1]
              have := seg_add (sbits s) 0 B.length (2 * gz s B.length + 1)
              rw [Nat.zero_add, ← HB.out] at this
              exact this.symm), by rw [hl, v2]⟩
          have UX := Lib.hid (And.intro u1 (And.intro hVe.symm (rfl : ueI s B.length = ueI s B.length))); clear u1
          have PX := Lib.hid (And.intro p1 p2); clear p1 p2 v1 v2 v3 hl hVe hV
          go_wp2_with (first | (go_at_call 14; (with_reducible refine (copy_any g2 1 at1).mono ?_); rintro e w1 ⟨cb, rfl, h1⟩; clear g2))
          have H1 := Lib.hid h1; clear h1
          go_loopw [5] (fun n' wx => ∃ z : Nat, n' = .int .i64 z ∧ z ≤ gz s B.length ∧ Hp W wx [aRd cb s (B.length + z), aWr wb B, aRd rb s B.length] []) (fun n' _ => 32 - (intOf n').toNat)
          case atStart => exact ⟨0, rfl, Nat.zero_le _, H1.out⟩
          case round =>
            obtain ⟨z, rfl, hzl, hz⟩ := hrel
            by_cases hlt : z < gz s B.length
            · obtain ⟨e1, e2⟩ := HZ.out z hlt
              have i1 : uI s (B.length + z) 1 = B.length + (z + 1) := by unfold uI; rw [if_pos e1]; show B.length + z + 1 = _; omega
              have R := Lib.hid (And.intro i1 (And.intro e1 e2)); clear i1 e1 e2
              have hz32 : z < 32 := by have := gz_le s B.length; omega
              go_wp2_with (first | (go_at_call 15; (with_reducible refine (bit_any hz 0 at0).mono ?_); rintro e w1 ⟨rfl, hz1⟩; simp only [set0, R.out.1, R.out.2.1, R.out.2.2] at hz1 ⊢; clear hz))
              go_roundw
              case rel => exact ⟨z + 1, by go_num, by omega, hz1⟩
              case measure => simp [intOf]; omega
            · obtain rfl : z = gz s B.length := by omega
              have e1 : uE s (B.length + gz s B.length) 1 = 0 := uE_one.2 (by omega)
              have e2 : uV s (B.length + gz s B.length) 1 = 1 := by
                have h1 := uV_one_le s (B.length + gz s B.length)
                have h2 := zr_end (s := s) (f := 32) (i := B.length) hG
                have h3 : uV s (B.length + gz s B.length) 1 ≠ 0 := fun c => h2 ⟨e1, c⟩
                omega
              have R := Lib.hid (And.intro e1 e2); clear e1 e2
              obtain ⟨G, hGe⟩ : ∃ G, G = gz s B.length := ⟨_, rfl⟩
              rw [← hGe] at hz hG hsh R
              simp only [← hGe]
              have HGe := Lib.hid hGe; clear hGe hlt hzl
              rw [← HLf.out] at hsh
              clear hLf
              have hGi : ((G : Int) == 32) = false := by simp; omega
              have hs2 : decide ((Lf : Int) < 2 * (G : Int) + 1) = false := by simp; omega
              go_wp2_with (first | (go_at_call 15; (with_reducible refine (bit_any hz 0 at0).mono ?_); rintro e w1 ⟨rfl, hz1⟩; simp only [set0, R.out.1, R.out.2] at hz1 ⊢; clear hz) | (go_at_call 16; (with_reducible refine (left_as hz1 2 at2 HLf.out).mono ?_); rintro e w1 ⟨rfl, h4⟩; clear hz1) | (go_at_call 17; (with_reducible refine (gue_any h4 2 at2).mono ?_); rintro e w1 ⟨rfl, hE⟩; simp only [set2, UX.out.1, UX.out.2.1, UX.out.2.2] at hE ⊢; clear h4) | (go_at_call 18; (with_reducible refine (gput_ue hE 1 at1 hB40 V hV64).mono ?_); rintro e w1 ⟨rfl, hF⟩; simp only [set1, PX.out.1, PX.out.2] at hF ⊢; clear hE))
              go_roundg (8 * s.size - (B ++ ueB V).length)
              case measure => have := NB.out.1; omega
              case rel => exact ⟨B ++ ueB V, rfl, NB.out.2.1, NB.out.2.2.1, by have := hF.tail; rw [NB.out.2.2.2]; exact this⟩
  · have hsd : decide (60 < s.size) = true := by simp; omega
    go_enter Try.func3, Try.ntmps3
    go_wp2_with (first | (go_at_call 11; (with_reducible refine (gknown_any hS).mono ?_); rintro e w1 ⟨rfl, hS2⟩))
    exact bodyPost_ret (results_tmp rfl _ _ _) rfl ⟨rfl, hS2.below⟩

end Go.Proofs.Ytlmkabpdgemndaa
