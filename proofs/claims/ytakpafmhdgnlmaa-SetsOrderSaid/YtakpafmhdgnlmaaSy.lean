/- awake. -/
import Derived.Test.YtakpafmhdgnlmaaSx
namespace Go.Proofs.Ytakpafmhdgnlmaa
open Go.RowKit
set_option linter.unusedVariables false
set_option maxRecDepth 100000
set_option linter.unusedSimpArgs false

def F0 : Int → Option SpsD := fun _ => none
def G0 : Int → Option PpsD := fun _ => none
theorem putp_as {W w : World} {L : List AObj} {F : List (Nat × Obj)} {b m1 m2 : Nat} {f : Int → Option SpsD} {g g' : Int → Option PpsD} (h : Hp W w L F) (k : Nat) (hk : L[k]? = some (aSt b m1 m2 f g)) {x : PpsD} (hx : okP x = true ∧ upd g x.id x = g') :
    Calls Try.prog 16 #[.pointer (some ⟨b, 0, none⟩), pv x] w fun e w' => e = .returned (.int .i64 0) ∧ Hp W w' (L.set k (aSt b m1 m2 f g')) F := by
  obtain ⟨h1, rfl⟩ := hx
  exact putp_ok h k hk x h1
theorem puts_as {W w : World} {L : List AObj} {F : List (Nat × Obj)} {b m1 m2 : Nat} {f f' : Int → Option SpsD} {g : Int → Option PpsD} (h : Hp W w L F) (k : Nat) (hk : L[k]? = some (aSt b m1 m2 f g)) {x : SpsD} (hx : okS x = true ∧ upd f x.id x = f') :
    Calls Try.prog 15 #[.pointer (some ⟨b, 0, none⟩), sv x] w fun e w' => e = .returned (.int .i64 0) ∧ Hp W w' (L.set k (aSt b m1 m2 f' g)) F := by
  obtain ⟨h1, rfl⟩ := hx
  exact puts_ok h k hk x h1
theorem setsnew_as {W w : World} {L : List AObj} {F : List (Nat × Obj)} (h : Hp W w L F) {f : Int → Option SpsD} {g : Int → Option PpsD} (hf : F0 = f) (hg : G0 = g) :
    Calls Try.prog 8 #[] w fun e w' => ∃ b m1 m2, e = .returned (.pointer (some ⟨b, 0, none⟩)) ∧ Hp W w' (aSt b m1 m2 f g :: L) F := by
  subst hf hg
  exact setsnew_any h
theorem getR_none (f : Int → Option SpsD) (g : Int → Option PpsD) (id : Int) (h : 0 ≤ id ∧ id < 32) (hg : g id = none) : getR f g id = (p00, s00, 7) := by
  unfold getR; rw [if_neg (by omega), hg]
theorem getR_half (f : Int → Option SpsD) (g : Int → Option PpsD) (id : Int) (h : 0 ≤ id ∧ id < 32) {p : PpsD} (hg : g id = some p) (hf : f p.sps = none) : getR f g id = (p00, s00, 7) := by
  unfold getR; rw [if_neg (by omega), hg]; simp only; rw [hf]
theorem getR_both (f : Int → Option SpsD) (g : Int → Option PpsD) (id : Int) (h : 0 ≤ id ∧ id < 32) {p : PpsD} {q : SpsD} (hg : g id = some p) (hf : f p.sps = some q) : getR f g id = (p, q, 0) := by
  unfold getR; rw [if_neg (by omega), hg]; simp only; rw [hf]
theorem getR_out (f : Int → Option SpsD) (g : Int → Option PpsD) (id : Int) (h : id < 0 ∨ 32 ≤ id) : getR f g id = (p00, s00, 3) := by
  unfold getR; rw [if_pos h]

set_option maxHeartbeats 2000000 in
theorem awake_any {W w : World} {L : List AObj} {F : List (Nat × Obj)} (h : Hp W w L F) :
    Calls Try.prog 14 #[] w fun e w' => e = .returned (.bool true) ∧ Hp W w' L F := by
  obtain ⟨f0, hf0⟩ : ∃ f, F0 = f := ⟨_, rfl⟩
  obtain ⟨g0, hg0⟩ : ∃ f, G0 = f := ⟨_, rfl⟩
  obtain ⟨x1, hx1⟩ : ∃ x, pW 0 3 = x := ⟨_, rfl⟩
  obtain ⟨x2, hx2⟩ : ∃ x, pW 0 4 = x := ⟨_, rfl⟩
  obtain ⟨y1, hy1⟩ : ∃ x, sW 3 1 = x := ⟨_, rfl⟩
  obtain ⟨g1, hg1⟩ : ∃ f, upd g0 x1.id x1 = f := ⟨_, rfl⟩
  obtain ⟨g2, hg2⟩ : ∃ f, upd g1 x2.id x2 = f := ⟨_, rfl⟩
  obtain ⟨f1, hf1⟩ : ∃ f, upd f0 y1.id y1 = f := ⟨_, rfl⟩
  have R0 : Hid (decide (getR f0 g0 0 = (p00, s00, 7)) = true) := Lib.hid (by subst hf0 hg0; exact decide_eq_true (getR_none _ _ _ (by decide) rfl))
  have R1 : Hid (decide (getR f0 g1 0 = (p00, s00, 7)) = true) := Lib.hid (by subst hf0 hg1 hx1; exact decide_eq_true (getR_half _ _ _ (by decide) (if_pos rfl) rfl))
  have R2 : Hid (decide (getR f1 g1 0 = (x1, y1, 0)) = true) := Lib.hid (by subst hf1 hg1 hx1 hy1; exact decide_eq_true (getR_both _ _ _ (by decide) (if_pos rfl) (if_pos rfl)))
  have R3 : Hid (decide (getR f1 g2 0 = (p00, s00, 7)) = true) := Lib.hid (by subst hf1 hg2 hx2 hy1 hf0; exact decide_eq_true (getR_half _ _ _ (by decide) (if_pos rfl) (if_neg (by decide))))
  have R4 : Hid (decide (getR f1 g2 (-1) = (p00, s00, 3)) = true) := Lib.hid (decide_eq_true (getR_out _ _ _ (by decide)))
  have R5 : Hid (decide (getR f1 g2 32 = (p00, s00, 3)) = true) := Lib.hid (decide_eq_true (getR_out _ _ _ (by decide)))
  have P1 : Hid (okP x1 = true ∧ upd g0 x1.id x1 = g1) := Lib.hid ⟨by subst hx1; exact okP_W (by decide) (by decide), hg1⟩
  have P2 : Hid (okP x2 = true ∧ upd g1 x2.id x2 = g2) := Lib.hid ⟨by subst hx2; exact okP_W (by decide) (by decide), hg2⟩
  have S1 : Hid (okS y1 = true ∧ upd f0 y1.id y1 = f1) := Lib.hid ⟨by subst hy1; exact okS_W (by decide) (by decide), hf1⟩
  have S0 : Hid (okS s00 = false) := Lib.hid (by decide)
  have HF0 := Lib.hid hf0
  have HG0 := Lib.hid hg0
  have HX1 := Lib.hid hx1
  have HX2 := Lib.hid hx2
  have HY1 := Lib.hid hy1
  clear hf0 hg0 hx1 hx2 hy1 hg1 hg2 hf1
  go_enter Try.func14, Try.ntmps14
  go_wp2_with (first | (go_at_call 8; (with_reducible refine (setsnew_as h HF0.out HG0.out).mono ?_); rintro e w1 ⟨b, m1, m2, rfl, h1⟩; clear h) | (go_at_call 13; (with_reducible refine (has_any h1 0 at0 0 p00 s00 7 R0.out).mono ?_); rintro e w1 ⟨rfl, h2⟩; clear h1) | (go_at_call 11; (with_reducible refine (pps_as HX1.out _).mono ?_); rintro e w1 ⟨rfl, hbl⟩; have h3 := h2.same hbl; clear h2 hbl) | (go_at_call 16; (with_reducible refine (putp_as h3 0 at0 P1.out).mono ?_); rintro e w1 ⟨rfl, h4⟩; simp only [set0] at h4; clear h3) | (go_at_call 13; (with_reducible refine (has_any h4 0 at0 0 p00 s00 7 R1.out).mono ?_); rintro e w1 ⟨rfl, h5⟩; clear h4) | (go_at_call 12; (with_reducible refine (sps_as HY1.out _).mono ?_); rintro e w1 ⟨rfl, hbl⟩; have h6 := h5.same hbl; clear h5 hbl) | (go_at_call 15; (with_reducible refine (puts_as h6 0 at0 S1.out).mono ?_); rintro e w1 ⟨rfl, h7⟩; simp only [set0] at h7; clear h6) | (go_at_call 11; (with_reducible refine (pps_as HX1.out _).mono ?_); rintro e w1 ⟨rfl, hbl⟩; have h8 := h7.same hbl; clear h7 hbl) | (go_at_call 12; (with_reducible refine (sps_as HY1.out _).mono ?_); rintro e w1 ⟨rfl, hbl⟩; have h9 := h8.same hbl; clear h8 hbl) | (go_at_call 13; (with_reducible refine (has_any h9 0 at0 0 x1 y1 0 R2.out).mono ?_); rintro e w1 ⟨rfl, h10⟩; clear h9) | (go_at_call 11; (with_reducible refine (pps_as HX2.out _).mono ?_); rintro e w1 ⟨rfl, hbl⟩; have h11 := h10.same hbl; clear h10 hbl) | (go_at_call 16; (with_reducible refine (putp_as h11 0 at0 P2.out).mono ?_); rintro e w1 ⟨rfl, h12⟩; simp only [set0] at h12; clear h11) | (go_at_call 13; (with_reducible refine (has_any h12 0 at0 0 p00 s00 7 R3.out).mono ?_); rintro e w1 ⟨rfl, h13⟩; clear h12) | (go_at_call 13; (with_reducible refine (has_any h13 0 at0 (-1) p00 s00 3 R4.out).mono ?_); rintro e w1 ⟨rfl, h14⟩; clear h13) | (go_at_call 13; (with_reducible refine (has_any h14 0 at0 32 p00 s00 3 R5.out).mono ?_); rintro e w1 ⟨rfl, h15⟩; clear h14) | (go_at_call 15; (with_reducible refine (puts_bad h15 0 at0 s00 S0.out).mono ?_); rintro e w1 ⟨rfl, h16⟩; clear h15))
  exact bodyPost_ret (results_tmp rfl _ _ _) rfl ⟨rfl, h16.tail⟩

end Go.Proofs.Ytakpafmhdgnlmaa
