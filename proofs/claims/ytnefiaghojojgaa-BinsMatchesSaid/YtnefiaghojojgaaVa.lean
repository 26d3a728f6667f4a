/- alive. -/
import Derived.Test.YtnefiaghojojgaaVe
namespace Go.Proofs.Ytnefiaghojojgaa
open Go.RowKit Go.Shelf
set_option linter.unusedVariables false
set_option maxRecDepth 100000
set_option linter.unusedSimpArgs false

section
variable {W w : World} {L : List AObj} {F : List (Nat × Obj)}
theorem equal_is (h : Hp W w L F) {sp sq : Option Addr} {n m c d g1 o1 g2 o2 : Nat} {a b : List (Int × Int)} (ha : BnIn w sp n g1 o1 a) (hb : BnIn w sq m g2 o2 b) {r : Bool} (hr : decide (a = b) = r) :
    Calls Try.prog 8 #[.slice sp n c, .slice sq m d] w fun e w' => e = .returned (.bool r) ∧ Hp W w' L F ∧ ∀ p, w'.cell? p = w.cell? p := by
  subst hr
  exact equal_hp h ha hb
theorem mvd_is (h : Hp W w L F) (v sum : Int) (vert : Bool) {E : Int} {B : List (Int × Int)} (hE : mvE v sum = E) (hB : mvB v sum vert = B) :
    Calls Try.prog 13 #[.int .i64 v, .int .i64 sum, .bool vert] w fun e w' => ∃ sp cap, e = .returned (.tuple #[.slice sp B.length cap, .int .i64 E]) ∧ Hp W w' (aBn (.slice sp B.length cap) B :: L) F := by
  subst hE hB
  refine (mvd_any h v sum vert).mono ?_
  rintro e w' ⟨v', rfl, h'⟩
  obtain ⟨sp, cap, rfl, _, _⟩ := h'.sl_form 0 at0
  exact ⟨sp, cap, rfl, h'⟩
theorem type_is (h : Hp W w L F) (n : Int) (intra : Bool) (inc : Int) {E : Int} {B : List (Int × Int)} (hE : tyE n intra inc = E) (hB : tyB n intra inc = B) :
    Calls Try.prog 7 #[.int .i64 n, .bool intra, .int .i64 inc] w fun e w' => ∃ sp cap, e = .returned (.tuple #[.slice sp B.length cap, .int .i64 E]) ∧ Hp W w' (aBn (.slice sp B.length cap) B :: L) F := by
  subst hE hB
  refine (type_any h n intra inc).mono ?_
  rintro e w' ⟨v', rfl, h'⟩
  obtain ⟨sp, cap, rfl, _, _⟩ := h'.sl_form 0 at0
  exact ⟨sp, cap, rfl, h'⟩
theorem of_is {g n c : Nat} {l : List Int} (h : Hp W w L ((g, ctxO l) :: F)) (hn : n = l.length) (hl1 : 0 < l.length) (hl2 : l.length ≤ 10) {B : List (Int × Int)} (hB : ofB l = B) :
    Calls Try.prog 18 #[.slice (some ⟨g, 0, none⟩) n c] w fun e w' => ∃ sp cap, e = .returned (.slice sp B.length cap) ∧ Hp W w' (aBn (.slice sp B.length cap) B :: L) F := by
  subst hB
  refine (of_any h hn hl1 hl2).mono ?_
  rintro e w' ⟨v', rfl, h'⟩
  obtain ⟨sp, cap, rfl, _, _⟩ := h'.sl_form 0 at0
  exact ⟨sp, cap, rfl, h'⟩

set_option maxHeartbeats 4000000 in
theorem alive_any (h : Hp W w L F) : Calls Try.prog 9 #[] w fun e w' => e = .returned (.bool true) ∧ Hp W w' L F := by
  obtain ⟨A, hA⟩ : ∃ A : List (Int × Int), A = [(31, 1), (33, 0), (-1, 1)] := ⟨_, rfl⟩
  obtain ⟨B, hB⟩ : ∃ B : List (Int × Int), B = [(3, 1), (6, 1), (7, 0), (9, 0), (10, 1)] := ⟨_, rfl⟩
  have a1 : mvB (-1) 3 false = A := by rw [hA]; decide +kernel
  have a2 : tyB 14 true 0 = B := by rw [hB]; decide +kernel
  have a3 : ofB [31, 1, 33, 0, -1, 1] = A := by rw [hA]; decide +kernel
  have a4 : ofB [3, 1, 6, 1, 7, 0, 9, 0, 10, 1] = B := by rw [hB]; decide +kernel
  have a5 : A.length ≤ 100000 := by rw [hA]; decide
  have a6 : B.length ≤ 100000 := by rw [hB]; decide
  have A1 := Lib.hid a1
  have A2 := Lib.hid a2
  have A3 := Lib.hid a3
  have A4 := Lib.hid a4
  have A5 := Lib.hid a5
  have A6 := Lib.hid a6
  clear hA hB a1 a2 a3 a4 a5 a6
  have H := Lib.hid h
  clear h
  go_enter Try.func9, Try.ntmps9
  go_wp2_with (first | (go_at_call 13; (with_reducible refine (mvd_is (E := 0) H.out _ _ _ (by decide) A1.out).mono ?_); rintro e w1 ⟨sp1, c1, rfl, H1⟩) | (go_at_call 7; (with_reducible refine (type_is (E := 0) H1 _ _ _ (by decide) A2.out).mono ?_); rintro e w2 ⟨sp2, c2, rfl, H2⟩; clear H1; have H3 : Hp W _ _ ((w2.heap.size, ctxO [31, 1, 33, 0, -1, 1]) :: F) := H2.alloc (ctxO [31, 1, 33, 0, -1, 1])) | (go_at_call 18; (refine (of_is H3 (n := 6) rfl (by simp) (by simp) A3.out).mono ?_); rintro e w3 ⟨sp3, c3, rfl, H4⟩; clear H3 H2; obtain ⟨g4, q4⟩ := H4.bnIn 0 at0 A5.out; obtain ⟨g5, q5⟩ := H4.bnIn 2 at2 A5.out) | (go_at_call 8; (with_reducible refine (equal_is H4 q5 q4 (decide_eq_true rfl)).mono ?_); rintro e w4 ⟨rfl, H5, _⟩; clear q4 q5 H4; have H6 : Hp W _ _ ((w4.heap.size, ctxO [3, 1, 6, 1, 7, 0, 9, 0, 10, 1]) :: F) := H5.alloc (ctxO [3, 1, 6, 1, 7, 0, 9, 0, 10, 1])) | (go_at_call 18; (refine (of_is H6 (n := 10) rfl (by simp) (by simp) A4.out).mono ?_); rintro e w5 ⟨sp5, c5, rfl, H7⟩; clear H6 H5; obtain ⟨g6, q6⟩ := H7.bnIn 0 at0 A6.out; obtain ⟨g7, q7⟩ := H7.bnIn 2 at2 A6.out) | (go_at_call 8; (with_reducible refine (equal_is H7 q7 q6 (decide_eq_true rfl)).mono ?_); rintro e w6 ⟨rfl, H8, _⟩))
  exact bodyPost_ret (results_tmp rfl _ _ _) rfl ⟨rfl, H8.tail.tail.tail.tail⟩
end

end Go.Proofs.Ytnefiaghojojgaa
