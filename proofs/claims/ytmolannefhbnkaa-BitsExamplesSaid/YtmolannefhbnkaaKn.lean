/- 'known' of the law's package: it returns true, whatever there is. -/
import Derived.Test.YtmolannefhbnkaaQb
namespace Go.Proofs.Ytmolannefhbnkaa
open Go.RowKit
set_option linter.unusedVariables false
set_option maxRecDepth 100000
set_option linter.unusedSimpArgs false

theorem known_any {W w : World} {L : List AObj} {F : List (Nat × Obj)} (h : Hp W w L F) :
    Calls Try.prog 11 #[] w fun e w' => e = .returned (.bool true) ∧ Hp W w' L F := by
  have i1 : uI ⟨#[165, 15]⟩ 0 1 = 1 := by decide
  have i2 : uI ⟨#[165, 15]⟩ 1 3 = 4 := by decide
  have i3 : uI ⟨#[165, 15]⟩ 4 8 = 12 := by decide
  have v1 : uV ⟨#[165, 15]⟩ 0 1 = 1 := by decide
  have v2 : uV ⟨#[165, 15]⟩ 1 3 = 2 := by decide
  have v3 : uV ⟨#[165, 15]⟩ 4 8 = 80 := by decide
  have e1 : uE ⟨#[165, 15]⟩ 0 1 = 0 := by decide
  have e2 : uE ⟨#[165, 15]⟩ 1 3 = 0 := by decide
  have e3 : uE ⟨#[165, 15]⟩ 4 8 = 0 := by decide
  have p1 : pE 1 (Int.toNat 1) = 0 := by decide
  have p2 : pE 3 (Int.toNat 2) = 0 := by decide
  have pb1 : pB [] 1 (Int.toNat 1) = [true] := by decide
  have pb2 : pB [true] 3 (Int.toNat 2) = [true, false, true, false] := by decide
  have s1 : strB [true, false, true, false] = ⟨#[49, 48, 49, 48]⟩ := by decide
  have s2 : pstr [true, false, true, false] = ⟨#[160]⟩ := by decide
  have H := Lib.hid h; clear h
  go_enter Try.func11, Try.ntmps11
  go_wp2_with (first | (go_at_call 24; refine (u_any (by assumption) _ (by first | exact at0 | exact at1) _).mono ?_; rintro e w1 ⟨rfl, hS⟩; simp only [set0, set1, i1, i2, i3, v1, v2, v3, e1, e2, e3] at hS ⊢) | (go_at_call 14; refine (put_int (by assumption) _ (by first | exact at0 | exact at1) (by decide) _ _ (by decide) (by decide)).mono ?_; rintro e w1 ⟨rfl, hS⟩; simp only [set0, set1, p1, p2, pb1, pb2] at hS ⊢) | (go_at_call 25; refine (pos_any (by assumption) _ (by first | exact at0 | exact at1)).mono ?_; rintro e w1 ⟨rfl, rfl⟩) | (go_at_call 26; refine (left_hp (by assumption) _ (by first | exact at0 | exact at1)).mono ?_; rintro e w1 ⟨rfl, hS⟩) | (go_at_call 18; refine (wbits_any (by assumption) _ (by first | exact at0 | exact at1) (by decide)).mono ?_; rintro e w1 ⟨rfl, hS⟩) | (go_at_call 20; refine (bytes_any (by assumption) _ (by first | exact at0 | exact at1) (by decide)).mono ?_; rintro e w1 ⟨rfl, hS⟩) | (go_at_call 23; refine (read_any H.out _ (by decide)).mono ?_; rintro e w1 ⟨b1, rfl, hS⟩) | (go_at_call 12; refine (write_any (by assumption)).mono ?_; rintro e w1 ⟨b2, rfl, hS⟩) | (go_at_call 27; refine (bit_any (by assumption) _ (by first | exact at0 | exact at1)).mono ?_; rintro e w1 ⟨rfl, hS⟩; simp only [set0, set1, i1, i2, i3, v1, e1] at hS ⊢))
  exact bodyPost_ret (results_tmp rfl _ _ _) rfl ⟨rfl, hS.tail.tail⟩

theorem copies_walk (s : ByteArray) (a b : Int) (a0 : 0 ≤ a) (a1 : a ≤ 255) (b0 : 0 ≤ b) (b1 : b ≤ 255) (hm : s.size ≤ maxLen) (W : World) :
    Calls Try.prog 10 #[.string s, .int .u8 a, .int .u8 b] W fun e w' => e = .returned (.bool true) ∧ Below W.heap.size W w' := by
  have hS := Hp.start W
  by_cases hs : s.size ≤ 200
  · have h48 : s.size ≤ 2 ^ 48 := by omega
    obtain ⟨n, hn⟩ : ∃ n : Nat, a % 65 = (n : Int) := ⟨(a % 65).toNat, by omega⟩
    have hn64 : n ≤ 64 := by omega
    obtain ⟨m, hm'⟩ : ∃ m : Nat, b % 65 = (m : Int) := ⟨(b % 65).toNat, by omega⟩
    by_cases hmin : n ≤ 8 * s.size
    · have e1 : uE s 0 (n : Int) = 0 := uE_ok hn64 (by omega)
      have i1 : uI s 0 (n : Int) = n := by rw [uI_ok hn64 (by omega), Nat.zero_add]
      have hmin' : (n : Int) ≤ 8 * (s.size : Int) := by omega
      go_enter Try.func10, Try.ntmps10
      go_wp2_with (first | (go_at_call 23; refine (read_any (by assumption) _ (by first | assumption | decide)).mono ?_; rintro e w1 ⟨rb, rfl, hS⟩) | (go_at_call 24; refine (u_any (by assumption) _ (by first | exact at0 | exact at1 | exact at2 | exact at3) _).mono ?_; rintro e w1 ⟨rfl, hS⟩; simp only [set0, set1, set2, set3] at hS) | (go_at_call 25; refine (pos_any (by assumption) _ (by first | exact at0 | exact at1 | exact at2 | exact at3)).mono ?_; rintro e w1 ⟨rfl, rfl⟩) | (go_at_call 26; refine (left_hp (by assumption) _ (by first | exact at0 | exact at1 | exact at2 | exact at3)).mono ?_; rintro e w1 ⟨rfl, hS⟩) | (go_at_call 30; refine (copy_any (by assumption) _ (by first | exact at0 | exact at1 | exact at2 | exact at3)).mono ?_; rintro e w1 ⟨cb, rfl, hS⟩) | (go_at_call 11; refine (known_any (by assumption)).mono ?_; rintro e w1 ⟨rfl, hS⟩))
      exact bodyPost_ret (results_tmp rfl _ _ _) rfl ⟨rfl, (by assumption : Hp _ _ _ _).below⟩
    · have e1 : uE s 0 (8 * (s.size : Int)) = 0 := by have := uE_ok (s := s) (i := 0) (n := 8 * s.size) (by omega) (by omega); simpa using this
      have i1 : uI s 0 (8 * (s.size : Int)) = 8 * s.size := by have := uI_ok (s := s) (i := 0) (n := 8 * s.size) (by omega) (by omega); simpa using this
      have hmin' : ¬ (n : Int) ≤ 8 * (s.size : Int) := by omega
      go_enter Try.func10, Try.ntmps10
      go_wp2_with (first | (go_at_call 23; refine (read_any (by assumption) _ (by first | assumption | decide)).mono ?_; rintro e w1 ⟨rb, rfl, hS⟩) | (go_at_call 24; refine (u_any (by assumption) _ (by first | exact at0 | exact at1 | exact at2 | exact at3) _).mono ?_; rintro e w1 ⟨rfl, hS⟩; simp only [set0, set1, set2, set3] at hS) | (go_at_call 25; refine (pos_any (by assumption) _ (by first | exact at0 | exact at1 | exact at2 | exact at3)).mono ?_; rintro e w1 ⟨rfl, rfl⟩) | (go_at_call 26; refine (left_hp (by assumption) _ (by first | exact at0 | exact at1 | exact at2 | exact at3)).mono ?_; rintro e w1 ⟨rfl, hS⟩) | (go_at_call 30; refine (copy_any (by assumption) _ (by first | exact at0 | exact at1 | exact at2 | exact at3)).mono ?_; rintro e w1 ⟨cb, rfl, hS⟩) | (go_at_call 11; refine (known_any (by assumption)).mono ?_; rintro e w1 ⟨rfl, hS⟩))
      exact bodyPost_ret (results_tmp rfl _ _ _) rfl ⟨rfl, (by assumption : Hp _ _ _ _).below⟩
  · go_enter Try.func10, Try.ntmps10
    go_wp2_with (first | (go_at_call 11; refine (known_any (by assumption)).mono ?_; rintro e w1 ⟨rfl, hS⟩))
    exact bodyPost_ret (results_tmp rfl _ _ _) rfl ⟨rfl, (by assumption : Hp _ _ _ _).below⟩
end Go.Proofs.Ytmolannefhbnkaa
