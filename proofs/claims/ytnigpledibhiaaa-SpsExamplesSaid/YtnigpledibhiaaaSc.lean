/- Check. -/
import Derived.Test.YtnigpledibhiaaaSo
namespace Go.Proofs.Ytnigpledibhiaaa
open Go.RowKit
set_option linter.unusedVariables false
set_option maxRecDepth 100000
set_option linter.unusedSimpArgs false

def okS (x : SpsD) : Bool := decide (0 ≤ x.id ∧ x.id ≤ 31) && decide (4 ≤ x.fb ∧ x.fb ≤ 16) && decide (4 ≤ x.pb ∧ x.pb ≤ 16) && decide (0 ≤ x.refs ∧ x.refs ≤ 16) && decide (1 ≤ x.w ∧ x.w ≤ 128) && decide (1 ≤ x.h ∧ x.h ≤ 128) && !decide (8160 < x.w * x.h)
def okP (x : PpsD) : Bool := decide (0 ≤ x.id ∧ x.id ≤ 31) && decide (0 ≤ x.sps ∧ x.sps ≤ 31) && decide (1 ≤ x.refs ∧ x.refs ≤ 32) && decide (1 ≤ x.refs1 ∧ x.refs1 ≤ 32) && decide ((-26) ≤ x.qp ∧ x.qp ≤ 25) && decide ((-26) ≤ x.qs ∧ x.qs ≤ 25) && decide ((-12) ≤ x.ch ∧ x.ch ≤ 12)
theorem sin_as {n lo hi : Int} {b : Bool} (hb : decide (lo ≤ n ∧ n ≤ hi) = b) (w : World) : Calls Try.prog 29 #[.int .i64 n, .int .i64 lo, .int .i64 hi] w fun e w' => e = .returned (.bool b) ∧ w = w' := by
  by_cases h1 : lo ≤ n
  · by_cases h2 : n ≤ hi
    · obtain rfl : b = true := by rw [← hb]; simp; omega
      clear hb
      go_enter Try.func29, Try.ntmps29
      go_wp2_with (fail)
      exact bodyPost_ret (results_tmp rfl _ _ _) rfl ⟨rfl, rfl⟩
    · obtain rfl : b = false := by rw [← hb]; simp; omega
      clear hb
      go_enter Try.func29, Try.ntmps29
      go_wp2_with (fail)
      exact bodyPost_ret (results_tmp rfl _ _ _) rfl ⟨rfl, rfl⟩
  · obtain rfl : b = false := by rw [← hb]; simp; omega
    clear hb
    go_enter Try.func29, Try.ntmps29
    go_wp2_with (fail)
    exact bodyPost_ret (results_tmp rfl _ _ _) rfl ⟨rfl, rfl⟩
theorem rsin_as {n lo hi : Int} {b : Bool} (hb : decide (lo ≤ n ∧ n ≤ hi) = b) (w : World) : Calls Try.prog 30 #[.int .i64 n, .int .i64 lo, .int .i64 hi] w fun e w' => e = .returned (.bool b) ∧ w = w' := by
  by_cases h1 : lo ≤ n
  · by_cases h2 : n ≤ hi
    · obtain rfl : b = true := by rw [← hb]; simp; omega
      clear hb
      go_enter Try.func30, Try.ntmps30
      go_wp2_with (fail)
      exact bodyPost_ret (results_tmp rfl _ _ _) rfl ⟨rfl, rfl⟩
    · obtain rfl : b = false := by rw [← hb]; simp; omega
      clear hb
      go_enter Try.func30, Try.ntmps30
      go_wp2_with (fail)
      exact bodyPost_ret (results_tmp rfl _ _ _) rfl ⟨rfl, rfl⟩
  · obtain rfl : b = false := by rw [← hb]; simp; omega
    clear hb
    go_enter Try.func30, Try.ntmps30
    go_wp2_with (fail)
    exact bodyPost_ret (results_tmp rfl _ _ _) rfl ⟨rfl, rfl⟩
set_option maxHeartbeats 4000000 in
theorem scheck_any (x : SpsD) (w : World) : Calls Try.prog 11 #[sv x] w fun e w' => e = .returned (.int .i64 (if okS x then 0 else 3)) ∧ Below w.heap.size w w' := by
  obtain ⟨b0, h0⟩ : ∃ b, decide (0 ≤ x.id ∧ x.id ≤ 31) = b := ⟨_, rfl⟩
  obtain ⟨b1, h1⟩ : ∃ b, decide (4 ≤ x.fb ∧ x.fb ≤ 16) = b := ⟨_, rfl⟩
  obtain ⟨b2, h2⟩ : ∃ b, decide (4 ≤ x.pb ∧ x.pb ≤ 16) = b := ⟨_, rfl⟩
  obtain ⟨b3, h3⟩ : ∃ b, decide (0 ≤ x.refs ∧ x.refs ≤ 16) = b := ⟨_, rfl⟩
  obtain ⟨b4, h4⟩ : ∃ b, decide (1 ≤ x.w ∧ x.w ≤ 128) = b := ⟨_, rfl⟩
  obtain ⟨b5, h5⟩ : ∃ b, decide (1 ≤ x.h ∧ x.h ≤ 128) = b := ⟨_, rfl⟩
  obtain ⟨bx, hx⟩ : ∃ b, decide (8160 < x.w * x.h) = b := ⟨_, rfl⟩
  have e : okS x = (b0 && b1 && b2 && b3 && b4 && b5 && !bx) := by unfold okS; rw [h0, h1, h2, h3, h4, h5, hx]
  rw [e]
  clear e
  have hm : b4 = true → b5 = true → IntKind.i64.wrap (x.w * x.h) = x.w * x.h := by
    intro e4 e5
    rw [e4] at h4; rw [e5] at h5
    simp at h4 h5
    have h6 : x.w * x.h ≤ 128 * 128 := Int.mul_le_mul h4.2 h5.2 (by omega) (by omega)
    have h7 : 0 ≤ x.w * x.h := Int.mul_nonneg (by omega) (by omega)
    rw [IntKind.wrap_i64]
    omega
  obtain ⟨pr, fl, le, id, fb, pb, refs, w0, h00⟩ := x
  simp only at *
  have H0 := Lib.hid h0
  have H1 := Lib.hid h1
  have H2 := Lib.hid h2
  have H3 := Lib.hid h3
  have H4 := Lib.hid h4
  have H5 := Lib.hid h5
  clear h0 h1 h2 h3 h4 h5
  cases b0
  · clear hm hx
    go_enter Try.func11, Try.ntmps11
    go_wp2_with (first | (go_at_call 29; (with_reducible refine (sin_as (by first | exact H0.out | exact H1.out | exact H2.out | exact H3.out | exact H4.out | exact H5.out) _).mono ?_); rintro e w1 ⟨rfl, rfl⟩))
    exact bodyPost_ret (results_tmp rfl _ _ _) rfl ⟨rfl, (Below.refl _ _).alloc (Nat.le_refl _) _⟩
  cases b1
  · clear hm hx
    go_enter Try.func11, Try.ntmps11
    go_wp2_with (first | (go_at_call 29; (with_reducible refine (sin_as (by first | exact H0.out | exact H1.out | exact H2.out | exact H3.out | exact H4.out | exact H5.out) _).mono ?_); rintro e w1 ⟨rfl, rfl⟩))
    exact bodyPost_ret (results_tmp rfl _ _ _) rfl ⟨rfl, (Below.refl _ _).alloc (Nat.le_refl _) _⟩
  cases b2
  · clear hm hx
    go_enter Try.func11, Try.ntmps11
    go_wp2_with (first | (go_at_call 29; (with_reducible refine (sin_as (by first | exact H0.out | exact H1.out | exact H2.out | exact H3.out | exact H4.out | exact H5.out) _).mono ?_); rintro e w1 ⟨rfl, rfl⟩))
    exact bodyPost_ret (results_tmp rfl _ _ _) rfl ⟨rfl, (Below.refl _ _).alloc (Nat.le_refl _) _⟩
  cases b3
  · clear hm hx
    go_enter Try.func11, Try.ntmps11
    go_wp2_with (first | (go_at_call 29; (with_reducible refine (sin_as (by first | exact H0.out | exact H1.out | exact H2.out | exact H3.out | exact H4.out | exact H5.out) _).mono ?_); rintro e w1 ⟨rfl, rfl⟩))
    exact bodyPost_ret (results_tmp rfl _ _ _) rfl ⟨rfl, (Below.refl _ _).alloc (Nat.le_refl _) _⟩
  cases b4
  · clear hm hx
    go_enter Try.func11, Try.ntmps11
    go_wp2_with (first | (go_at_call 29; (with_reducible refine (sin_as (by first | exact H0.out | exact H1.out | exact H2.out | exact H3.out | exact H4.out | exact H5.out) _).mono ?_); rintro e w1 ⟨rfl, rfl⟩))
    exact bodyPost_ret (results_tmp rfl _ _ _) rfl ⟨rfl, (Below.refl _ _).alloc (Nat.le_refl _) _⟩
  cases b5
  · clear hm hx
    go_enter Try.func11, Try.ntmps11
    go_wp2_with (first | (go_at_call 29; (with_reducible refine (sin_as (by first | exact H0.out | exact H1.out | exact H2.out | exact H3.out | exact H4.out | exact H5.out) _).mono ?_); rintro e w1 ⟨rfl, rfl⟩))
    exact bodyPost_ret (results_tmp rfl _ _ _) rfl ⟨rfl, (Below.refl _ _).alloc (Nat.le_refl _) _⟩
  replace hm := hm rfl rfl
  cases bx
  · go_enter Try.func11, Try.ntmps11
    go_wp2_with (first | (go_at_call 29; (with_reducible refine (sin_as (by first | exact H0.out | exact H1.out | exact H2.out | exact H3.out | exact H4.out | exact H5.out) _).mono ?_); rintro e w1 ⟨rfl, rfl⟩))
    exact bodyPost_ret (results_tmp rfl _ _ _) rfl ⟨rfl, (Below.refl _ _).alloc (Nat.le_refl _) _⟩
  · go_enter Try.func11, Try.ntmps11
    go_wp2_with (first | (go_at_call 29; (with_reducible refine (sin_as (by first | exact H0.out | exact H1.out | exact H2.out | exact H3.out | exact H4.out | exact H5.out) _).mono ?_); rintro e w1 ⟨rfl, rfl⟩))
    exact bodyPost_ret (results_tmp rfl _ _ _) rfl ⟨rfl, (Below.refl _ _).alloc (Nat.le_refl _) _⟩

set_option maxHeartbeats 4000000 in
theorem rscheck_any (x : SpsD) (w : World) : Calls Try.prog 12 #[sv x] w fun e w' => e = .returned (.int .i64 (if okS x then 0 else 3)) ∧ Below w.heap.size w w' := by
  obtain ⟨b0, h0⟩ : ∃ b, decide (0 ≤ x.id ∧ x.id ≤ 31) = b := ⟨_, rfl⟩
  obtain ⟨b1, h1⟩ : ∃ b, decide (4 ≤ x.fb ∧ x.fb ≤ 16) = b := ⟨_, rfl⟩
  obtain ⟨b2, h2⟩ : ∃ b, decide (4 ≤ x.pb ∧ x.pb ≤ 16) = b := ⟨_, rfl⟩
  obtain ⟨b3, h3⟩ : ∃ b, decide (0 ≤ x.refs ∧ x.refs ≤ 16) = b := ⟨_, rfl⟩
  obtain ⟨b4, h4⟩ : ∃ b, decide (1 ≤ x.w ∧ x.w ≤ 128) = b := ⟨_, rfl⟩
  obtain ⟨b5, h5⟩ : ∃ b, decide (1 ≤ x.h ∧ x.h ≤ 128) = b := ⟨_, rfl⟩
  obtain ⟨bx, hx⟩ : ∃ b, decide (8160 < x.w * x.h) = b := ⟨_, rfl⟩
  have e : okS x = (b0 && b1 && b2 && b3 && b4 && b5 && !bx) := by unfold okS; rw [h0, h1, h2, h3, h4, h5, hx]
  rw [e]
  clear e
  have hm : b4 = true → b5 = true → IntKind.i64.wrap (x.w * x.h) = x.w * x.h := by
    intro e4 e5
    rw [e4] at h4; rw [e5] at h5
    simp at h4 h5
    have h6 : x.w * x.h ≤ 128 * 128 := Int.mul_le_mul h4.2 h5.2 (by omega) (by omega)
    have h7 : 0 ≤ x.w * x.h := Int.mul_nonneg (by omega) (by omega)
    rw [IntKind.wrap_i64]
    omega
  obtain ⟨pr, fl, le, id, fb, pb, refs, w0, h00⟩ := x
  simp only at *
  have H0 := Lib.hid h0
  have H1 := Lib.hid h1
  have H2 := Lib.hid h2
  have H3 := Lib.hid h3
  have H4 := Lib.hid h4
  have H5 := Lib.hid h5
  clear h0 h1 h2 h3 h4 h5
  cases b0
  · clear hm hx
    go_enter Try.func12, Try.ntmps12
    go_wp2_with (first | (go_at_call 30; (with_reducible refine (rsin_as (by first | exact H0.out | exact H1.out | exact H2.out | exact H3.out | exact H4.out | exact H5.out) _).mono ?_); rintro e w1 ⟨rfl, rfl⟩))
    exact bodyPost_ret (results_tmp rfl _ _ _) rfl ⟨rfl, (Below.refl _ _).alloc (Nat.le_refl _) _⟩
  cases b1
  · clear hm hx
    go_enter Try.func12, Try.ntmps12
    go_wp2_with (first | (go_at_call 30; (with_reducible refine (rsin_as (by first | exact H0.out | exact H1.out | exact H2.out | exact H3.out | exact H4.out | exact H5.out) _).mono ?_); rintro e w1 ⟨rfl, rfl⟩))
    exact bodyPost_ret (results_tmp rfl _ _ _) rfl ⟨rfl, (Below.refl _ _).alloc (Nat.le_refl _) _⟩
  cases b2
  · clear hm hx
    go_enter Try.func12, Try.ntmps12
    go_wp2_with (first | (go_at_call 30; (with_reducible refine (rsin_as (by first | exact H0.out | exact H1.out | exact H2.out | exact H3.out | exact H4.out | exact H5.out) _).mono ?_); rintro e w1 ⟨rfl, rfl⟩))
    exact bodyPost_ret (results_tmp rfl _ _ _) rfl ⟨rfl, (Below.refl _ _).alloc (Nat.le_refl _) _⟩
  cases b3
  · clear hm hx
    go_enter Try.func12, Try.ntmps12
    go_wp2_with (first | (go_at_call 30; (with_reducible refine (rsin_as (by first | exact H0.out | exact H1.out | exact H2.out | exact H3.out | exact H4.out | exact H5.out) _).mono ?_); rintro e w1 ⟨rfl, rfl⟩))
    exact bodyPost_ret (results_tmp rfl _ _ _) rfl ⟨rfl, (Below.refl _ _).alloc (Nat.le_refl _) _⟩
  cases b4
  · clear hm hx
    go_enter Try.func12, Try.ntmps12
    go_wp2_with (first | (go_at_call 30; (with_reducible refine (rsin_as (by first | exact H0.out | exact H1.out | exact H2.out | exact H3.out | exact H4.out | exact H5.out) _).mono ?_); rintro e w1 ⟨rfl, rfl⟩))
    exact bodyPost_ret (results_tmp rfl _ _ _) rfl ⟨rfl, (Below.refl _ _).alloc (Nat.le_refl _) _⟩
  cases b5
  · clear hm hx
    go_enter Try.func12, Try.ntmps12
    go_wp2_with (first | (go_at_call 30; (with_reducible refine (rsin_as (by first | exact H0.out | exact H1.out | exact H2.out | exact H3.out | exact H4.out | exact H5.out) _).mono ?_); rintro e w1 ⟨rfl, rfl⟩))
    exact bodyPost_ret (results_tmp rfl _ _ _) rfl ⟨rfl, (Below.refl _ _).alloc (Nat.le_refl _) _⟩
  replace hm := hm rfl rfl
  cases bx
  · go_enter Try.func12, Try.ntmps12
    go_wp2_with (first | (go_at_call 30; (with_reducible refine (rsin_as (by first | exact H0.out | exact H1.out | exact H2.out | exact H3.out | exact H4.out | exact H5.out) _).mono ?_); rintro e w1 ⟨rfl, rfl⟩))
    exact bodyPost_ret (results_tmp rfl _ _ _) rfl ⟨rfl, (Below.refl _ _).alloc (Nat.le_refl _) _⟩
  · go_enter Try.func12, Try.ntmps12
    go_wp2_with (first | (go_at_call 30; (with_reducible refine (rsin_as (by first | exact H0.out | exact H1.out | exact H2.out | exact H3.out | exact H4.out | exact H5.out) _).mono ?_); rintro e w1 ⟨rfl, rfl⟩))
    exact bodyPost_ret (results_tmp rfl _ _ _) rfl ⟨rfl, (Below.refl _ _).alloc (Nat.le_refl _) _⟩

end Go.Proofs.Ytnigpledibhiaaa
