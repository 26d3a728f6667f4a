/- Check. -/
import Derived.Test.YtkaoeilijdeioaaSo
namespace Go.Proofs.Ytkaoeilijdeioaa
open Go.RowKit
set_option linter.unusedVariables false
set_option maxRecDepth 100000
set_option linter.unusedSimpArgs false

def okS (x : SpsD) : Bool := decide (0 ≤ x.id ∧ x.id ≤ 31) && decide (4 ≤ x.fb ∧ x.fb ≤ 16) && decide (4 ≤ x.pb ∧ x.pb ≤ 16) && decide (0 ≤ x.refs ∧ x.refs ≤ 16) && decide (1 ≤ x.w ∧ x.w ≤ 128) && decide (1 ≤ x.h ∧ x.h ≤ 128) && !decide (8160 < x.w * x.h)
def okP (x : PpsD) : Bool := decide (0 ≤ x.id ∧ x.id ≤ 31) && decide (0 ≤ x.sps ∧ x.sps ≤ 31) && decide (1 ≤ x.refs ∧ x.refs ≤ 32) && decide (1 ≤ x.refs1 ∧ x.refs1 ≤ 32) && decide ((-26) ≤ x.qp ∧ x.qp ≤ 25) && decide ((-26) ≤ x.qs ∧ x.qs ≤ 25) && decide ((-12) ≤ x.ch ∧ x.ch ≤ 12)
theorem pin_as {n lo hi : Int} {b : Bool} (hb : decide (lo ≤ n ∧ n ≤ hi) = b) (w : World) : Calls Try.prog 34 #[.int .i64 n, .int .i64 lo, .int .i64 hi] w fun e w' => e = .returned (.bool b) ∧ w = w' := by
  by_cases h1 : lo ≤ n
  · by_cases h2 : n ≤ hi
    · obtain rfl : b = true := by rw [← hb]; simp; omega
      clear hb
      go_enter Try.func34, Try.ntmps34
      go_wp2_with (fail)
      exact bodyPost_ret (results_tmp rfl _ _ _) rfl ⟨rfl, rfl⟩
    · obtain rfl : b = false := by rw [← hb]; simp; omega
      clear hb
      go_enter Try.func34, Try.ntmps34
      go_wp2_with (fail)
      exact bodyPost_ret (results_tmp rfl _ _ _) rfl ⟨rfl, rfl⟩
  · obtain rfl : b = false := by rw [← hb]; simp; omega
    clear hb
    go_enter Try.func34, Try.ntmps34
    go_wp2_with (fail)
    exact bodyPost_ret (results_tmp rfl _ _ _) rfl ⟨rfl, rfl⟩
theorem rsin_as {n lo hi : Int} {b : Bool} (hb : decide (lo ≤ n ∧ n ≤ hi) = b) (w : World) : Calls Try.prog 72 #[.int .i64 n, .int .i64 lo, .int .i64 hi] w fun e w' => e = .returned (.bool b) ∧ w = w' := by
  by_cases h1 : lo ≤ n
  · by_cases h2 : n ≤ hi
    · obtain rfl : b = true := by rw [← hb]; simp; omega
      clear hb
      go_enter Try.func72, Try.ntmps72
      go_wp2_with (fail)
      exact bodyPost_ret (results_tmp rfl _ _ _) rfl ⟨rfl, rfl⟩
    · obtain rfl : b = false := by rw [← hb]; simp; omega
      clear hb
      go_enter Try.func72, Try.ntmps72
      go_wp2_with (fail)
      exact bodyPost_ret (results_tmp rfl _ _ _) rfl ⟨rfl, rfl⟩
  · obtain rfl : b = false := by rw [← hb]; simp; omega
    clear hb
    go_enter Try.func72, Try.ntmps72
    go_wp2_with (fail)
    exact bodyPost_ret (results_tmp rfl _ _ _) rfl ⟨rfl, rfl⟩
theorem rpin_as {n lo hi : Int} {b : Bool} (hb : decide (lo ≤ n ∧ n ≤ hi) = b) (w : World) : Calls Try.prog 35 #[.int .i64 n, .int .i64 lo, .int .i64 hi] w fun e w' => e = .returned (.bool b) ∧ w = w' := by
  by_cases h1 : lo ≤ n
  · by_cases h2 : n ≤ hi
    · obtain rfl : b = true := by rw [← hb]; simp; omega
      clear hb
      go_enter Try.func35, Try.ntmps35
      go_wp2_with (fail)
      exact bodyPost_ret (results_tmp rfl _ _ _) rfl ⟨rfl, rfl⟩
    · obtain rfl : b = false := by rw [← hb]; simp; omega
      clear hb
      go_enter Try.func35, Try.ntmps35
      go_wp2_with (fail)
      exact bodyPost_ret (results_tmp rfl _ _ _) rfl ⟨rfl, rfl⟩
  · obtain rfl : b = false := by rw [← hb]; simp; omega
    clear hb
    go_enter Try.func35, Try.ntmps35
    go_wp2_with (fail)
    exact bodyPost_ret (results_tmp rfl _ _ _) rfl ⟨rfl, rfl⟩
set_option maxHeartbeats 4000000 in
theorem pcheck_any (x : PpsD) (w : World) : Calls Try.prog 11 #[pv x] w fun e w' => e = .returned (.int .i64 (if okP x then 0 else 3)) ∧ Below w.heap.size w w' := by
  obtain ⟨b0, h0⟩ : ∃ b, decide (0 ≤ x.id ∧ x.id ≤ 31) = b := ⟨_, rfl⟩
  obtain ⟨b1, h1⟩ : ∃ b, decide (0 ≤ x.sps ∧ x.sps ≤ 31) = b := ⟨_, rfl⟩
  obtain ⟨b2, h2⟩ : ∃ b, decide (1 ≤ x.refs ∧ x.refs ≤ 32) = b := ⟨_, rfl⟩
  obtain ⟨b3, h3⟩ : ∃ b, decide (1 ≤ x.refs1 ∧ x.refs1 ≤ 32) = b := ⟨_, rfl⟩
  obtain ⟨b4, h4⟩ : ∃ b, decide ((-26) ≤ x.qp ∧ x.qp ≤ 25) = b := ⟨_, rfl⟩
  obtain ⟨b5, h5⟩ : ∃ b, decide ((-26) ≤ x.qs ∧ x.qs ≤ 25) = b := ⟨_, rfl⟩
  obtain ⟨b6, h6⟩ : ∃ b, decide ((-12) ≤ x.ch ∧ x.ch ≤ 12) = b := ⟨_, rfl⟩
  have e : okP x = (b0 && b1 && b2 && b3 && b4 && b5 && b6) := by unfold okP; rw [h0, h1, h2, h3, h4, h5, h6]
  rw [e]
  clear e
  obtain ⟨id, sps, cab, refs, refs1, qp, qs, ch, deb, intra⟩ := x
  simp only at *
  have H0 := Lib.hid h0
  have H1 := Lib.hid h1
  have H2 := Lib.hid h2
  have H3 := Lib.hid h3
  have H4 := Lib.hid h4
  have H5 := Lib.hid h5
  have H6 := Lib.hid h6
  clear h0 h1 h2 h3 h4 h5 h6
  cases b0
  · go_enter Try.func11, Try.ntmps11
    go_wp2_with (first | (go_at_call 34; (with_reducible refine (pin_as (by first | exact H0.out | exact H1.out | exact H2.out | exact H3.out | exact H4.out | exact H5.out | exact H6.out) _).mono ?_); rintro e w1 ⟨rfl, rfl⟩))
    exact bodyPost_ret (results_tmp rfl _ _ _) rfl ⟨rfl, (Below.refl _ _).alloc (Nat.le_refl _) _⟩
  cases b1
  · go_enter Try.func11, Try.ntmps11
    go_wp2_with (first | (go_at_call 34; (with_reducible refine (pin_as (by first | exact H0.out | exact H1.out | exact H2.out | exact H3.out | exact H4.out | exact H5.out | exact H6.out) _).mono ?_); rintro e w1 ⟨rfl, rfl⟩))
    exact bodyPost_ret (results_tmp rfl _ _ _) rfl ⟨rfl, (Below.refl _ _).alloc (Nat.le_refl _) _⟩
  cases b2
  · go_enter Try.func11, Try.ntmps11
    go_wp2_with (first | (go_at_call 34; (with_reducible refine (pin_as (by first | exact H0.out | exact H1.out | exact H2.out | exact H3.out | exact H4.out | exact H5.out | exact H6.out) _).mono ?_); rintro e w1 ⟨rfl, rfl⟩))
    exact bodyPost_ret (results_tmp rfl _ _ _) rfl ⟨rfl, (Below.refl _ _).alloc (Nat.le_refl _) _⟩
  cases b3
  · go_enter Try.func11, Try.ntmps11
    go_wp2_with (first | (go_at_call 34; (with_reducible refine (pin_as (by first | exact H0.out | exact H1.out | exact H2.out | exact H3.out | exact H4.out | exact H5.out | exact H6.out) _).mono ?_); rintro e w1 ⟨rfl, rfl⟩))
    exact bodyPost_ret (results_tmp rfl _ _ _) rfl ⟨rfl, (Below.refl _ _).alloc (Nat.le_refl _) _⟩
  cases b4
  · go_enter Try.func11, Try.ntmps11
    go_wp2_with (first | (go_at_call 34; (with_reducible refine (pin_as (by first | exact H0.out | exact H1.out | exact H2.out | exact H3.out | exact H4.out | exact H5.out | exact H6.out) _).mono ?_); rintro e w1 ⟨rfl, rfl⟩))
    exact bodyPost_ret (results_tmp rfl _ _ _) rfl ⟨rfl, (Below.refl _ _).alloc (Nat.le_refl _) _⟩
  cases b5
  · go_enter Try.func11, Try.ntmps11
    go_wp2_with (first | (go_at_call 34; (with_reducible refine (pin_as (by first | exact H0.out | exact H1.out | exact H2.out | exact H3.out | exact H4.out | exact H5.out | exact H6.out) _).mono ?_); rintro e w1 ⟨rfl, rfl⟩))
    exact bodyPost_ret (results_tmp rfl _ _ _) rfl ⟨rfl, (Below.refl _ _).alloc (Nat.le_refl _) _⟩
  cases b6
  · go_enter Try.func11, Try.ntmps11
    go_wp2_with (first | (go_at_call 34; (with_reducible refine (pin_as (by first | exact H0.out | exact H1.out | exact H2.out | exact H3.out | exact H4.out | exact H5.out | exact H6.out) _).mono ?_); rintro e w1 ⟨rfl, rfl⟩))
    exact bodyPost_ret (results_tmp rfl _ _ _) rfl ⟨rfl, (Below.refl _ _).alloc (Nat.le_refl _) _⟩
  go_enter Try.func11, Try.ntmps11
  go_wp2_with (first | (go_at_call 34; (with_reducible refine (pin_as (by first | exact H0.out | exact H1.out | exact H2.out | exact H3.out | exact H4.out | exact H5.out | exact H6.out) _).mono ?_); rintro e w1 ⟨rfl, rfl⟩))
  exact bodyPost_ret (results_tmp rfl _ _ _) rfl ⟨rfl, (Below.refl _ _).alloc (Nat.le_refl _) _⟩

set_option maxHeartbeats 4000000 in
theorem rpcheck_any (x : PpsD) (w : World) : Calls Try.prog 12 #[pv x] w fun e w' => e = .returned (.int .i64 (if okP x then 0 else 3)) ∧ Below w.heap.size w w' := by
  obtain ⟨b0, h0⟩ : ∃ b, decide (0 ≤ x.id ∧ x.id ≤ 31) = b := ⟨_, rfl⟩
  obtain ⟨b1, h1⟩ : ∃ b, decide (0 ≤ x.sps ∧ x.sps ≤ 31) = b := ⟨_, rfl⟩
  obtain ⟨b2, h2⟩ : ∃ b, decide (1 ≤ x.refs ∧ x.refs ≤ 32) = b := ⟨_, rfl⟩
  obtain ⟨b3, h3⟩ : ∃ b, decide (1 ≤ x.refs1 ∧ x.refs1 ≤ 32) = b := ⟨_, rfl⟩
  obtain ⟨b4, h4⟩ : ∃ b, decide ((-26) ≤ x.qp ∧ x.qp ≤ 25) = b := ⟨_, rfl⟩
  obtain ⟨b5, h5⟩ : ∃ b, decide ((-26) ≤ x.qs ∧ x.qs ≤ 25) = b := ⟨_, rfl⟩
  obtain ⟨b6, h6⟩ : ∃ b, decide ((-12) ≤ x.ch ∧ x.ch ≤ 12) = b := ⟨_, rfl⟩
  have e : okP x = (b0 && b1 && b2 && b3 && b4 && b5 && b6) := by unfold okP; rw [h0, h1, h2, h3, h4, h5, h6]
  rw [e]
  clear e
  obtain ⟨id, sps, cab, refs, refs1, qp, qs, ch, deb, intra⟩ := x
  simp only at *
  have H0 := Lib.hid h0
  have H1 := Lib.hid h1
  have H2 := Lib.hid h2
  have H3 := Lib.hid h3
  have H4 := Lib.hid h4
  have H5 := Lib.hid h5
  have H6 := Lib.hid h6
  clear h0 h1 h2 h3 h4 h5 h6
  cases b0
  · go_enter Try.func12, Try.ntmps12
    go_wp2_with (first | (go_at_call 35; (with_reducible refine (rpin_as (by first | exact H0.out | exact H1.out | exact H2.out | exact H3.out | exact H4.out | exact H5.out | exact H6.out) _).mono ?_); rintro e w1 ⟨rfl, rfl⟩))
    exact bodyPost_ret (results_tmp rfl _ _ _) rfl ⟨rfl, (Below.refl _ _).alloc (Nat.le_refl _) _⟩
  cases b1
  · go_enter Try.func12, Try.ntmps12
    go_wp2_with (first | (go_at_call 35; (with_reducible refine (rpin_as (by first | exact H0.out | exact H1.out | exact H2.out | exact H3.out | exact H4.out | exact H5.out | exact H6.out) _).mono ?_); rintro e w1 ⟨rfl, rfl⟩))
    exact bodyPost_ret (results_tmp rfl _ _ _) rfl ⟨rfl, (Below.refl _ _).alloc (Nat.le_refl _) _⟩
  cases b2
  · go_enter Try.func12, Try.ntmps12
    go_wp2_with (first | (go_at_call 35; (with_reducible refine (rpin_as (by first | exact H0.out | exact H1.out | exact H2.out | exact H3.out | exact H4.out | exact H5.out | exact H6.out) _).mono ?_); rintro e w1 ⟨rfl, rfl⟩))
    exact bodyPost_ret (results_tmp rfl _ _ _) rfl ⟨rfl, (Below.refl _ _).alloc (Nat.le_refl _) _⟩
  cases b3
  · go_enter Try.func12, Try.ntmps12
    go_wp2_with (first | (go_at_call 35; (with_reducible refine (rpin_as (by first | exact H0.out | exact H1.out | exact H2.out | exact H3.out | exact H4.out | exact H5.out | exact H6.out) _).mono ?_); rintro e w1 ⟨rfl, rfl⟩))
    exact bodyPost_ret (results_tmp rfl _ _ _) rfl ⟨rfl, (Below.refl _ _).alloc (Nat.le_refl _) _⟩
  cases b4
  · go_enter Try.func12, Try.ntmps12
    go_wp2_with (first | (go_at_call 35; (with_reducible refine (rpin_as (by first | exact H0.out | exact H1.out | exact H2.out | exact H3.out | exact H4.out | exact H5.out | exact H6.out) _).mono ?_); rintro e w1 ⟨rfl, rfl⟩))
    exact bodyPost_ret (results_tmp rfl _ _ _) rfl ⟨rfl, (Below.refl _ _).alloc (Nat.le_refl _) _⟩
  cases b5
  · go_enter Try.func12, Try.ntmps12
    go_wp2_with (first | (go_at_call 35; (with_reducible refine (rpin_as (by first | exact H0.out | exact H1.out | exact H2.out | exact H3.out | exact H4.out | exact H5.out | exact H6.out) _).mono ?_); rintro e w1 ⟨rfl, rfl⟩))
    exact bodyPost_ret (results_tmp rfl _ _ _) rfl ⟨rfl, (Below.refl _ _).alloc (Nat.le_refl _) _⟩
  cases b6
  · go_enter Try.func12, Try.ntmps12
    go_wp2_with (first | (go_at_call 35; (with_reducible refine (rpin_as (by first | exact H0.out | exact H1.out | exact H2.out | exact H3.out | exact H4.out | exact H5.out | exact H6.out) _).mono ?_); rintro e w1 ⟨rfl, rfl⟩))
    exact bodyPost_ret (results_tmp rfl _ _ _) rfl ⟨rfl, (Below.refl _ _).alloc (Nat.le_refl _) _⟩
  go_enter Try.func12, Try.ntmps12
  go_wp2_with (first | (go_at_call 35; (with_reducible refine (rpin_as (by first | exact H0.out | exact H1.out | exact H2.out | exact H3.out | exact H4.out | exact H5.out | exact H6.out) _).mono ?_); rintro e w1 ⟨rfl, rfl⟩))
  exact bodyPost_ret (results_tmp rfl _ _ _) rfl ⟨rfl, (Below.refl _ _).alloc (Nat.le_refl _) _⟩

end Go.Proofs.Ytkaoeilijdeioaa
