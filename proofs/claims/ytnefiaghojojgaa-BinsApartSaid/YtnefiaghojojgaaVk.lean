/- The law's same. -/
import Derived.Test.YtnefiaghojojgaaVp
namespace Go.Proofs.Ytnefiaghojojgaa
open Go.RowKit Go.Shelf
set_option linter.unusedVariables false
set_option maxRecDepth 100000
set_option linter.unusedSimpArgs false

def manyN (what N : Int) : Int := if what % 6 = 0 then 60 else if what % 6 = 1 then N % 15 + 1 else if what % 6 = 2 then 2147483648 else if what % 6 = 5 then 52 else 16385

section
variable {W w : World} {L : List AObj} {F : List (Nat × Obj)}
set_option maxHeartbeats 4000000 in
theorem same0 (h : Hp W w L F) (what V N v : Int) (w0 : 0 ≤ what) (hw : what % 6 = 0) (v1 : -9223372036854775808 ≤ V) (v2 : V < 9223372036854775808) (n1 : -9223372036854775808 ≤ N) (n2 : N < 9223372036854775808) (u1 : -9223372036854775808 ≤ v) (u2 : v < 9223372036854775808) (r : Bool) (hr : (V % 60 == v % 60) = r) :
    Calls Try.prog 16 #[.agg #[.int .u8 what, .int .i64 V, .int .i64 N], .int .i64 v] w fun e w' => e = .returned (.bool r) ∧ Hp W w' L F := by
  have hwt : what.tmod 6 = 0 := by rw [Int.tmod_eq_emod_of_nonneg w0]; exact hw
  obtain ⟨b, hb⟩ : ∃ b, N % 15 = b := ⟨_, rfl⟩
  try rw [hb] at hr
  have b1 : 0 ≤ b ∧ b < 15 := by omega
  obtain ⟨b11, b12⟩ := b1
  have i0 : IntKind.i64.wrap (b + 1) = b + 1 := IntWalk.i64_in _ (by omega)
  obtain ⟨x, hx⟩ : ∃ x, V % 60 = x := ⟨_, rfl⟩
  obtain ⟨y, hy⟩ : ∃ y, v % 60 = y := ⟨_, rfl⟩
  rw [hx, hy] at hr
  have HB := Lib.hid hb
  have HX := Lib.hid (And.intro hx hy)
  have HR := Lib.hid hr
  have H := Lib.hid (h.alloc (.cells #[.int .u8 what, .int .i64 V, .int .i64 N] 43))
  clear h hb hr hx hy hw
  go_enter Try.func16, Try.ntmps16
  go_wp2_with (fail)
  go_region_with (first | (go_at_call 10; (with_reducible refine (rest_as HB.out (by decide) (by decide) n1 n2 _).mono ?_); rintro e w1 ⟨rfl, rfl⟩))
  all_goals
    have H2 := Lib.hid ((H.out.drew).lost (.cells #[.int .i64 60, .int .i64 (b + 1), .int .i64 2147483648, .int .i64 16385, .int .i64 16385, .int .i64 52] 3))
    obtain ⟨k0, k1, k2⟩ := cells_el (H2.out.blk (.head _))
    go_wp2_with (first | (go_at_call 10; (with_reducible refine (rest_as HX.out.1 (by omega) (by omega) v1 v2 _).mono ?_); rintro e w1 ⟨rfl, rfl⟩) | (go_at_call 10; (with_reducible refine (rest_as HX.out.2 (by omega) (by omega) u1 u2 _).mono ?_); rintro e w1 ⟨rfl, rfl⟩))
    exact bodyPost_ret (results_tmp rfl _ _ _) rfl ⟨by rw [← HR.out]; rfl, H2.out.drop⟩
set_option maxHeartbeats 4000000 in
theorem same1 (h : Hp W w L F) (what V N v : Int) (w0 : 0 ≤ what) (hw : what % 6 = 1) (v1 : -9223372036854775808 ≤ V) (v2 : V < 9223372036854775808) (n1 : -9223372036854775808 ≤ N) (n2 : N < 9223372036854775808) (u1 : -9223372036854775808 ≤ v) (u2 : v < 9223372036854775808) (r : Bool) (hr : (V % (N % 15 + 1) == v % (N % 15 + 1)) = r) :
    Calls Try.prog 16 #[.agg #[.int .u8 what, .int .i64 V, .int .i64 N], .int .i64 v] w fun e w' => e = .returned (.bool r) ∧ Hp W w' L F := by
  have hwt : what.tmod 6 = 1 := by rw [Int.tmod_eq_emod_of_nonneg w0]; exact hw
  obtain ⟨b, hb⟩ : ∃ b, N % 15 = b := ⟨_, rfl⟩
  try rw [hb] at hr
  have b1 : 0 ≤ b ∧ b < 15 := by omega
  obtain ⟨b11, b12⟩ := b1
  have i0 : IntKind.i64.wrap (b + 1) = b + 1 := IntWalk.i64_in _ (by omega)
  obtain ⟨x, hx⟩ : ∃ x, V % (b + 1) = x := ⟨_, rfl⟩
  obtain ⟨y, hy⟩ : ∃ y, v % (b + 1) = y := ⟨_, rfl⟩
  rw [hx, hy] at hr
  have HB := Lib.hid hb
  have HX := Lib.hid (And.intro hx hy)
  have HR := Lib.hid hr
  have H := Lib.hid (h.alloc (.cells #[.int .u8 what, .int .i64 V, .int .i64 N] 43))
  clear h hb hr hx hy hw
  go_enter Try.func16, Try.ntmps16
  go_wp2_with (fail)
  go_region_with (first | (go_at_call 10; (with_reducible refine (rest_as HB.out (by decide) (by decide) n1 n2 _).mono ?_); rintro e w1 ⟨rfl, rfl⟩))
  all_goals
    have H2 := Lib.hid ((H.out.drew).lost (.cells #[.int .i64 60, .int .i64 (b + 1), .int .i64 2147483648, .int .i64 16385, .int .i64 16385, .int .i64 52] 3))
    obtain ⟨k0, k1, k2⟩ := cells_el (H2.out.blk (.head _))
    go_wp2_with (first | (go_at_call 10; (with_reducible refine (rest_as HX.out.1 (by omega) (by omega) v1 v2 _).mono ?_); rintro e w1 ⟨rfl, rfl⟩) | (go_at_call 10; (with_reducible refine (rest_as HX.out.2 (by omega) (by omega) u1 u2 _).mono ?_); rintro e w1 ⟨rfl, rfl⟩))
    exact bodyPost_ret (results_tmp rfl _ _ _) rfl ⟨by rw [← HR.out]; rfl, H2.out.drop⟩
set_option maxHeartbeats 4000000 in
theorem same2 (h : Hp W w L F) (what V N v : Int) (w0 : 0 ≤ what) (hw : what % 6 = 2) (v1 : -9223372036854775808 ≤ V) (v2 : V < 9223372036854775808) (n1 : -9223372036854775808 ≤ N) (n2 : N < 9223372036854775808) (u1 : -9223372036854775808 ≤ v) (u2 : v < 9223372036854775808) (r : Bool) (hr : (V % 2147483648 == v % 2147483648) = r) :
    Calls Try.prog 16 #[.agg #[.int .u8 what, .int .i64 V, .int .i64 N], .int .i64 v] w fun e w' => e = .returned (.bool r) ∧ Hp W w' L F := by
  have hwt : what.tmod 6 = 2 := by rw [Int.tmod_eq_emod_of_nonneg w0]; exact hw
  obtain ⟨b, hb⟩ : ∃ b, N % 15 = b := ⟨_, rfl⟩
  try rw [hb] at hr
  have b1 : 0 ≤ b ∧ b < 15 := by omega
  obtain ⟨b11, b12⟩ := b1
  have i0 : IntKind.i64.wrap (b + 1) = b + 1 := IntWalk.i64_in _ (by omega)
  obtain ⟨x, hx⟩ : ∃ x, V % 2147483648 = x := ⟨_, rfl⟩
  obtain ⟨y, hy⟩ : ∃ y, v % 2147483648 = y := ⟨_, rfl⟩
  rw [hx, hy] at hr
  have HB := Lib.hid hb
  have HX := Lib.hid (And.intro hx hy)
  have HR := Lib.hid hr
  have H := Lib.hid (h.alloc (.cells #[.int .u8 what, .int .i64 V, .int .i64 N] 43))
  clear h hb hr hx hy hw
  go_enter Try.func16, Try.ntmps16
  go_wp2_with (fail)
  go_region_with (first | (go_at_call 10; (with_reducible refine (rest_as HB.out (by decide) (by decide) n1 n2 _).mono ?_); rintro e w1 ⟨rfl, rfl⟩))
  all_goals
    have H2 := Lib.hid ((H.out.drew).lost (.cells #[.int .i64 60, .int .i64 (b + 1), .int .i64 2147483648, .int .i64 16385, .int .i64 16385, .int .i64 52] 3))
    obtain ⟨k0, k1, k2⟩ := cells_el (H2.out.blk (.head _))
    go_wp2_with (first | (go_at_call 10; (with_reducible refine (rest_as HX.out.1 (by omega) (by omega) v1 v2 _).mono ?_); rintro e w1 ⟨rfl, rfl⟩) | (go_at_call 10; (with_reducible refine (rest_as HX.out.2 (by omega) (by omega) u1 u2 _).mono ?_); rintro e w1 ⟨rfl, rfl⟩))
    exact bodyPost_ret (results_tmp rfl _ _ _) rfl ⟨by rw [← HR.out]; rfl, H2.out.drop⟩
set_option maxHeartbeats 4000000 in
theorem same3 (h : Hp W w L F) (what V N v : Int) (w0 : 0 ≤ what) (hw : what % 6 = 3) (v1 : -9223372036854775808 ≤ V) (v2 : V < 9223372036854775808) (n1 : -9223372036854775808 ≤ N) (n2 : N < 9223372036854775808) (u1 : -9223372036854775808 ≤ v) (u2 : v < 9223372036854775808) (r : Bool) (hr : (V % 16385 == v % 16385) = r) :
    Calls Try.prog 16 #[.agg #[.int .u8 what, .int .i64 V, .int .i64 N], .int .i64 v] w fun e w' => e = .returned (.bool r) ∧ Hp W w' L F := by
  have hwt : what.tmod 6 = 3 := by rw [Int.tmod_eq_emod_of_nonneg w0]; exact hw
  obtain ⟨b, hb⟩ : ∃ b, N % 15 = b := ⟨_, rfl⟩
  try rw [hb] at hr
  have b1 : 0 ≤ b ∧ b < 15 := by omega
  obtain ⟨b11, b12⟩ := b1
  have i0 : IntKind.i64.wrap (b + 1) = b + 1 := IntWalk.i64_in _ (by omega)
  obtain ⟨x, hx⟩ : ∃ x, V % 16385 = x := ⟨_, rfl⟩
  obtain ⟨y, hy⟩ : ∃ y, v % 16385 = y := ⟨_, rfl⟩
  rw [hx, hy] at hr
  have HB := Lib.hid hb
  have HX := Lib.hid (And.intro hx hy)
  have HR := Lib.hid hr
  have H := Lib.hid (h.alloc (.cells #[.int .u8 what, .int .i64 V, .int .i64 N] 43))
  clear h hb hr hx hy hw
  go_enter Try.func16, Try.ntmps16
  go_wp2_with (fail)
  go_region_with (first | (go_at_call 10; (with_reducible refine (rest_as HB.out (by decide) (by decide) n1 n2 _).mono ?_); rintro e w1 ⟨rfl, rfl⟩))
  all_goals
    have H2 := Lib.hid ((H.out.drew).lost (.cells #[.int .i64 60, .int .i64 (b + 1), .int .i64 2147483648, .int .i64 16385, .int .i64 16385, .int .i64 52] 3))
    obtain ⟨k0, k1, k2⟩ := cells_el (H2.out.blk (.head _))
    go_wp2_with (first | (go_at_call 10; (with_reducible refine (rest_as HX.out.1 (by omega) (by omega) v1 v2 _).mono ?_); rintro e w1 ⟨rfl, rfl⟩) | (go_at_call 10; (with_reducible refine (rest_as HX.out.2 (by omega) (by omega) u1 u2 _).mono ?_); rintro e w1 ⟨rfl, rfl⟩))
    exact bodyPost_ret (results_tmp rfl _ _ _) rfl ⟨by rw [← HR.out]; rfl, H2.out.drop⟩
set_option maxHeartbeats 4000000 in
theorem same4 (h : Hp W w L F) (what V N v : Int) (w0 : 0 ≤ what) (hw : what % 6 = 4) (v1 : -9223372036854775808 ≤ V) (v2 : V < 9223372036854775808) (n1 : -9223372036854775808 ≤ N) (n2 : N < 9223372036854775808) (u1 : -9223372036854775808 ≤ v) (u2 : v < 9223372036854775808) (r : Bool) (hr : (V % 16385 == v % 16385) = r) :
    Calls Try.prog 16 #[.agg #[.int .u8 what, .int .i64 V, .int .i64 N], .int .i64 v] w fun e w' => e = .returned (.bool r) ∧ Hp W w' L F := by
  have hwt : what.tmod 6 = 4 := by rw [Int.tmod_eq_emod_of_nonneg w0]; exact hw
  obtain ⟨b, hb⟩ : ∃ b, N % 15 = b := ⟨_, rfl⟩
  try rw [hb] at hr
  have b1 : 0 ≤ b ∧ b < 15 := by omega
  obtain ⟨b11, b12⟩ := b1
  have i0 : IntKind.i64.wrap (b + 1) = b + 1 := IntWalk.i64_in _ (by omega)
  obtain ⟨x, hx⟩ : ∃ x, V % 16385 = x := ⟨_, rfl⟩
  obtain ⟨y, hy⟩ : ∃ y, v % 16385 = y := ⟨_, rfl⟩
  rw [hx, hy] at hr
  have HB := Lib.hid hb
  have HX := Lib.hid (And.intro hx hy)
  have HR := Lib.hid hr
  have H := Lib.hid (h.alloc (.cells #[.int .u8 what, .int .i64 V, .int .i64 N] 43))
  clear h hb hr hx hy hw
  go_enter Try.func16, Try.ntmps16
  go_wp2_with (fail)
  go_region_with (first | (go_at_call 10; (with_reducible refine (rest_as HB.out (by decide) (by decide) n1 n2 _).mono ?_); rintro e w1 ⟨rfl, rfl⟩))
  all_goals
    have H2 := Lib.hid ((H.out.drew).lost (.cells #[.int .i64 60, .int .i64 (b + 1), .int .i64 2147483648, .int .i64 16385, .int .i64 16385, .int .i64 52] 3))
    obtain ⟨k0, k1, k2⟩ := cells_el (H2.out.blk (.head _))
    go_wp2_with (first | (go_at_call 10; (with_reducible refine (rest_as HX.out.1 (by omega) (by omega) v1 v2 _).mono ?_); rintro e w1 ⟨rfl, rfl⟩) | (go_at_call 10; (with_reducible refine (rest_as HX.out.2 (by omega) (by omega) u1 u2 _).mono ?_); rintro e w1 ⟨rfl, rfl⟩))
    exact bodyPost_ret (results_tmp rfl _ _ _) rfl ⟨by rw [← HR.out]; rfl, H2.out.drop⟩
set_option maxHeartbeats 4000000 in
theorem same5 (h : Hp W w L F) (what V N v : Int) (w0 : 0 ≤ what) (hw : what % 6 = 5) (v1 : -9223372036854775808 ≤ V) (v2 : V < 9223372036854775808) (n1 : -9223372036854775808 ≤ N) (n2 : N < 9223372036854775808) (u1 : -9223372036854775808 ≤ v) (u2 : v < 9223372036854775808) (r : Bool) (hr : (V % 52 == v % 52) = r) :
    Calls Try.prog 16 #[.agg #[.int .u8 what, .int .i64 V, .int .i64 N], .int .i64 v] w fun e w' => e = .returned (.bool r) ∧ Hp W w' L F := by
  have hwt : what.tmod 6 = 5 := by rw [Int.tmod_eq_emod_of_nonneg w0]; exact hw
  obtain ⟨b, hb⟩ : ∃ b, N % 15 = b := ⟨_, rfl⟩
  try rw [hb] at hr
  have b1 : 0 ≤ b ∧ b < 15 := by omega
  obtain ⟨b11, b12⟩ := b1
  have i0 : IntKind.i64.wrap (b + 1) = b + 1 := IntWalk.i64_in _ (by omega)
  obtain ⟨x, hx⟩ : ∃ x, V % 52 = x := ⟨_, rfl⟩
  obtain ⟨y, hy⟩ : ∃ y, v % 52 = y := ⟨_, rfl⟩
  rw [hx, hy] at hr
  have HB := Lib.hid hb
  have HX := Lib.hid (And.intro hx hy)
  have HR := Lib.hid hr
  have H := Lib.hid (h.alloc (.cells #[.int .u8 what, .int .i64 V, .int .i64 N] 43))
  clear h hb hr hx hy hw
  go_enter Try.func16, Try.ntmps16
  go_wp2_with (fail)
  go_region_with (first | (go_at_call 10; (with_reducible refine (rest_as HB.out (by decide) (by decide) n1 n2 _).mono ?_); rintro e w1 ⟨rfl, rfl⟩))
  all_goals
    have H2 := Lib.hid ((H.out.drew).lost (.cells #[.int .i64 60, .int .i64 (b + 1), .int .i64 2147483648, .int .i64 16385, .int .i64 16385, .int .i64 52] 3))
    obtain ⟨k0, k1, k2⟩ := cells_el (H2.out.blk (.head _))
    go_wp2_with (first | (go_at_call 10; (with_reducible refine (rest_as HX.out.1 (by omega) (by omega) v1 v2 _).mono ?_); rintro e w1 ⟨rfl, rfl⟩) | (go_at_call 10; (with_reducible refine (rest_as HX.out.2 (by omega) (by omega) u1 u2 _).mono ?_); rintro e w1 ⟨rfl, rfl⟩))
    exact bodyPost_ret (results_tmp rfl _ _ _) rfl ⟨by rw [← HR.out]; rfl, H2.out.drop⟩
theorem same_any (h : Hp W w L F) (what V N v : Int) (w0 : 0 ≤ what) (v1 : -9223372036854775808 ≤ V) (v2 : V < 9223372036854775808) (n1 : -9223372036854775808 ≤ N) (n2 : N < 9223372036854775808) (u1 : -9223372036854775808 ≤ v) (u2 : v < 9223372036854775808) (r : Bool) (hr : (V % manyN what N == v % manyN what N) = r) :
    Calls Try.prog 16 #[.agg #[.int .u8 what, .int .i64 V, .int .i64 N], .int .i64 v] w fun e w' => e = .returned (.bool r) ∧ Hp W w' L F := by
  have h6 : what % 6 = 0 ∨ what % 6 = 1 ∨ what % 6 = 2 ∨ what % 6 = 3 ∨ what % 6 = 4 ∨ what % 6 = 5 := by omega
  unfold manyN at hr
  rcases h6 with c | c | c | c | c | c <;> simp only [c] at hr
  · exact same0 h what V N v w0 c v1 v2 n1 n2 u1 u2 r hr
  · exact same1 h what V N v w0 c v1 v2 n1 n2 u1 u2 r hr
  · exact same2 h what V N v w0 c v1 v2 n1 n2 u1 u2 r hr
  · exact same3 h what V N v w0 c v1 v2 n1 n2 u1 u2 r hr
  · exact same4 h what V N v w0 c v1 v2 n1 n2 u1 u2 r hr
  · exact same5 h what V N v w0 c v1 v2 n1 n2 u1 u2 r hr
end

end Go.Proofs.Ytnefiaghojojgaa
