/- The walk of BinsLengths. -/
import Derived.Test.YtnefiaghojojgaaVf
import Derived.Test.YtnefiaghojojgaaVh
namespace Go.Proofs.Ytnefiaghojojgaa
open Go.RowKit Go.Shelf
set_option linter.unusedVariables false
set_option maxRecDepth 100000
set_option linter.unusedSimpArgs false

theorem digB_ctx (v : Nat) : ∀ (n i : Nat), i < n → ((digB v n).getD i (0, 0)).1 = -1
  | n + 1, 0, _ => rfl
  | n + 1, i + 1, h => by simpa [digB] using digB_ctx v n i (by omega)
theorem digB_bit (v : Nat) : ∀ (n i : Nat), i < n → ((digB v n).getD i (0, 0)).2 = ((v / 2 ^ (n - 1 - i) % 2 : Nat) : Int)
  | n + 1, 0, _ => rfl
  | n + 1, i + 1, h => by
    have := digB_bit v n i (by omega)
    rw [show n + 1 - 1 - (i + 1) = n - 1 - i by omega]
    simpa [digB] using this
theorem getD_left {a b : List (Int × Int)} {i : Nat} (h : i < a.length) : (a ++ b).getD i (0, 0) = a.getD i (0, 0) := by
  simp [List.getElem?_append_left h]
theorem getD_right {a b : List (Int × Int)} {i : Nat} (h : a.length ≤ i) : (a ++ b).getD i (0, 0) = b.getD (i - a.length) (0, 0) := by
  simp [List.getElem?_append_right h]

/-- Escape's bins: how many, and which. -/
theorem esc_facts {n K : Nat} (hn : n < 2147483648) (hK : K ≤ 8) : escE n K = 0 ∧ (escB n K).length = K + 1 + 2 * lgN (n / 2 ^ K) ∧ (∀ i, i < (escB n K).length → ((escB n K).getD i (0, 0)).1 = -1) ∧
    (∀ i, i < lgN (n / 2 ^ K) → ((escB n K).getD i (0, 0)).2 = 0) ∧ ((escB n K).getD (lgN (n / 2 ^ K)) (0, 0)).2 = 1 := by
  obtain ⟨q, hq⟩ : ∃ q, q = n / 2 ^ K := ⟨_, rfl⟩
  have hqn : q ≤ n := by rw [hq]; exact Nat.div_le_self _ _
  have hE : escE n K = 0 := if_neg (by rw [Int.toNat_natCast, ← hq]; omega)
  have hB : escB n K = digB (q + 1) (2 * lgN q + 1) ++ digB n K := by unfold escB; rw [if_pos hE, Int.toNat_natCast, ← hq]
  rw [hB, ← hq]
  obtain ⟨b1, b2⟩ := lgN_bounds q
  refine ⟨hE, by rw [List.length_append, digB_length, digB_length]; omega, fun i hi => ?_, fun i hi => ?_, ?_⟩
  · rw [List.length_append, digB_length, digB_length] at hi
    by_cases h : i < 2 * lgN q + 1
    · rw [getD_left (by rw [digB_length]; exact h), digB_ctx _ _ _ h]
    · rw [getD_right (by rw [digB_length]; omega), digB_length, digB_ctx _ _ _ (by omega)]
  · rw [getD_left (by rw [digB_length]; omega), digB_bit _ _ _ (by omega), show 2 * lgN q + 1 - 1 - i = lgN q + 1 + (lgN q - 1 - i) by omega, Nat.pow_add, ← Nat.div_div_eq_div_mul, Nat.div_eq_of_lt b2]
    simp
  · rw [getD_left (by rw [digB_length]; omega), digB_bit _ _ _ (by omega), show 2 * lgN q + 1 - 1 - lgN q = lgN q by omega]
    have : (q + 1) / 2 ^ lgN q = 1 := by
      apply Nat.div_eq_of_lt_le
      · omega
      · rw [Nat.pow_succ] at b2; omega
    rw [this]
    rfl

/-- A difference's bins. -/
structure MvF (d : Int) (A Z M : List (Int × Int)) (n l : Nat) (bA bZ : Int) : Prop where
  al : A.length = n
  zl : Z.length = n
  nl : n = l + 1
  n32 : n ≤ 32
  ta : A.take l = M
  tz : Z.take l = M
  one : (d = 0) = (n = 1)
  ca : d ≠ 0 → (A.getD l (0, 0)) = (-1, bA)
  cz : d ≠ 0 → (Z.getD l (0, 0)) = (-1, bZ)
  ba : bA = if d < 0 then 1 else 0
  bz : bZ = if d < 0 then 0 else 1
theorem mvN_len {N : Nat} (h : N ≤ 8192) (sum : Int) (vert : Bool) : 1 ≤ (mvN N sum vert).length ∧ (mvN N sum vert).length ≤ 31 ∧ (N = 0 → (mvN N sum vert).length = 1) := by
  unfold mvN
  rw [List.length_append, cntB_length]
  by_cases h9 : 9 ≤ N
  · rw [if_pos h9, show min N 9 = 9 by omega]
    obtain ⟨e1, e2, _⟩ := esc_facts (n := N - 9) (K := 3) (by omega) (by omega)
    have hq : (N - 9) / 2 ^ 3 ≤ 1022 := by
      have e8 : (2 : Nat) ^ 3 = 8 := by decide
      rw [e8]; omega
    have hl : lgN ((N - 9) / 2 ^ 3) ≤ 9 := by
      obtain ⟨g1, _⟩ := lgN_bounds ((N - 9) / 2 ^ 3)
      have e : (2 : Nat) ^ 10 = 1024 := by decide
      have b : lgN ((N - 9) / 2 ^ 3) < 10 := (Nat.pow_lt_pow_iff_right (a := 2) (by omega)).1 (by omega)
      omega
    have e2' : (escB (N - 9) 3).length = 3 + 1 + 2 * lgN ((N - 9) / 2 ^ 3) := e2
    rw [e2']
    generalize lgN ((N - 9) / 2 ^ 3) = t at hl
    simp
    omega
  · rw [if_neg h9, show min N 9 = N by omega, decide_eq_true (by omega)]
    simp
    omega
theorem mv_facts {d : Int} (h1 : -8192 ≤ d) (h2 : d ≤ 8192) (sum : Int) (hs : 0 ≤ sum) (vert : Bool) : mvE d sum = 0 ∧ mvE (-d) sum = 0 ∧ ∃ M n l bA bZ, MvF d (mvB d sum vert) (mvB (-d) sum vert) M n l bA bZ := by
  have e1 : mvE d sum = 0 := if_pos ⟨hs, h1, h2⟩
  have e2 : mvE (-d) sum = 0 := if_pos ⟨hs, by omega, by omega⟩
  have hB : mvB d sum vert = mvN d.natAbs sum vert ++ sgB d := if_pos e1
  have hZ : mvB (-d) sum vert = mvN d.natAbs sum vert ++ sgB (-d) := by rw [show d.natAbs = (-d).natAbs by omega]; exact if_pos e2
  refine ⟨e1, e2, ?_⟩
  rw [hB, hZ]
  obtain ⟨k1, k2, k3⟩ := mvN_len (N := d.natAbs) (by omega) sum vert
  generalize hM : mvN d.natAbs sum vert = M at *
  rcases Int.lt_trichotomy d 0 with h | h | h
  · have s1 : sgB d = [(-1, 1)] := if_pos h
    have s2 : sgB (-d) = [(-1, 0)] := by unfold sgB; rw [if_neg (by omega), if_pos (by omega)]
    rw [s1, s2]
    refine ⟨M, M.length + 1, M.length, 1, 0, ⟨by simp, by simp, rfl, by omega, by simp, by simp, by apply propext; constructor <;> intro h' <;> omega, fun _ => by simp, fun _ => by simp, by rw [if_pos h], by rw [if_pos h]⟩⟩
  · subst h
    have s1 : sgB (0 : Int) = [] := rfl
    have s2 : sgB (-(0 : Int)) = [] := rfl
    rw [s1, s2, List.append_nil]
    have k4 := k3 rfl
    refine ⟨[], 1, 0, 0, 1, ⟨k4, k4, rfl, by omega, rfl, rfl, by simp, fun h => absurd rfl h, fun h => absurd rfl h, rfl, rfl⟩⟩
  · have s1 : sgB d = [(-1, 0)] := by unfold sgB; rw [if_neg (by omega), if_pos h]
    have s2 : sgB (-d) = [(-1, 1)] := by unfold sgB; rw [if_pos (by omega)]
    rw [s1, s2]
    refine ⟨M, M.length + 1, M.length, 0, 1, ⟨by simp, by simp, rfl, by omega, by simp, by simp, by apply propext; constructor <;> intro h' <;> omega, fun _ => by simp, fun _ => by simp, by rw [if_neg (by omega)], by rw [if_neg (by omega)]⟩⟩

section
variable {W w : World} {L : List AObj} {F : List (Nat × Obj)}
theorem rest_as {n m r : Int} (hr : n % m = r) (hm : 0 < m) (hm2 : m ≤ 4611686018427387904) (h1 : -9223372036854775808 ≤ n) (h2 : n < 9223372036854775808) (w : World) :
    Calls Try.prog 10 #[.int .i64 n, .int .i64 m] w fun e w' => e = .returned (.int .i64 r) ∧ w = w' := by
  subst hr
  exact rest_any n m hm hm2 h1 h2 w
theorem unary_is (h : Hp W w L F) (v f s r : Int) (h1 : -9223372036854775808 ≤ v) (h2 : v < 9223372036854775808) {E : Int} {B : List (Int × Int)} {m : Nat} (hE : unE v f s r = E) (hB : unB v f s r = B) (hm : B.length = m) :
    Calls Try.prog 11 #[.int .i64 v, .int .i64 f, .int .i64 s, .int .i64 r] w fun e w' => ∃ sp cap, e = .returned (.tuple #[.slice sp m cap, .int .i64 E]) ∧ Hp W w' (aBn (.slice sp m cap) B :: L) F := by
  subst hE hB
  refine (unary_any h v f s r h1 h2).mono ?_
  rintro e w' ⟨v', rfl, h'⟩
  obtain ⟨sp, cap, rfl, _, _⟩ := h'.sl_form 0 at0
  rw [hm] at h' ⊢
  refine ⟨sp, cap, rfl, ?_⟩
  rw [← hm] at h' ⊢
  exact h'
theorem escape_is (h : Hp W w L F) {V k : Int} {v : Nat} (hV : V = v) (hv : v < 18446744073709551616) {E : Int} {B : List (Int × Int)} {m : Nat} (hE : escE v k = E) (hB : escB v k = B) (hm : B.length = m) (h0 : 0 < m) :
    Calls Try.prog 12 #[.int .u64 V, .int .i64 k] w fun e w' => ∃ g cap, e = .returned (.tuple #[.slice (some ⟨g, 0, none⟩) m cap, .int .i64 E]) ∧ Hp W w' (aBs g m cap B :: L) F := by
  subst hV hE hB
  refine (escape_any h v k hv).mono ?_
  rintro e w' ⟨v', rfl, h'⟩
  obtain ⟨g, cap, rfl⟩ := sl_pos (h'.sl 0 at0) (by omega)
  rw [hm]
  refine ⟨g, cap, rfl, ?_⟩
  have : aBs g m cap (escB v k) = aBn (.slice (some ⟨g, 0, none⟩) (escB v k).length cap) (escB v k) := by rw [hm]
  rw [this]
  exact h'
theorem mvd_as (h : Hp W w L F) {v v' : Int} (hv : v' = v) (sum : Int) (vert : Bool) {E : Int} {B : List (Int × Int)} {m : Nat} (hE : mvE v sum = E) (hB : mvB v sum vert = B) (hm : B.length = m) (h0 : 0 < m) :
    Calls Try.prog 13 #[.int .i64 v', .int .i64 sum, .bool vert] w fun e w' => ∃ g cap, e = .returned (.tuple #[.slice (some ⟨g, 0, none⟩) m cap, .int .i64 E]) ∧ Hp W w' (aBs g m cap B :: L) F := by
  subst hv hE hB
  refine (mvd_any h v' sum vert).mono ?_
  rintro e w' ⟨y, rfl, h'⟩
  obtain ⟨g, cap, rfl⟩ := sl_pos (h'.sl 0 at0) (by omega)
  rw [hm]
  refine ⟨g, cap, rfl, ?_⟩
  have : aBs g m cap (mvB v' sum vert) = aBn (.slice (some ⟨g, 0, none⟩) (mvB v' sum vert).length cap) (mvB v' sum vert) := by rw [hm]
  rw [this]
  exact h'

set_option maxHeartbeats 8000000 in
theorem lengths_walk (v sum k : Int) (vert : Bool) (v1 : -9223372036854775808 ≤ v) (v2 : v < 9223372036854775808) (s1 : -9223372036854775808 ≤ sum) (s2 : sum < 9223372036854775808) (k1 : -9223372036854775808 ≤ k) (k2 : k < 9223372036854775808) :
    Calls Try.prog 4 #[.int .i64 v, .int .i64 sum, .int .i64 k, .bool vert] W fun e w' => e = .returned (.bool true) ∧ Below W.heap.size W w' := by
  have hS := Hp.start W
  obtain ⟨N, hN⟩ : ∃ N : Nat, v % 2147483648 = (N : Int) := ⟨(v % 2147483648).toNat, by omega⟩
  obtain ⟨K, hK⟩ : ∃ K : Nat, k % 9 = (K : Int) := ⟨(k % 9).toNat, by omega⟩
  obtain ⟨D, hD⟩ : ∃ D : Nat, v % 16385 = (D : Int) := ⟨(v % 16385).toNat, by omega⟩
  obtain ⟨V, hV⟩ : ∃ V : Nat, v % 1025 = (V : Int) := ⟨(v % 1025).toNat, by omega⟩
  obtain ⟨S, hS2⟩ : ∃ S : Nat, sum % 100 = (S : Int) := ⟨(sum % 100).toNat, by omega⟩
  have nN : N < 2147483648 := by omega
  have nK : K ≤ 8 := by omega
  have nV : V ≤ 1024 := by omega
  obtain ⟨d, hd⟩ : ∃ d : Int, (D : Int) - 8192 = d := ⟨_, rfl⟩
  have d1 : -8192 ≤ d := by omega
  have d2 : d ≤ 8192 := by omega
  obtain ⟨x1, x2, x3, x4, x5⟩ := esc_facts nN nK
  obtain ⟨y1, y2, M, n, l, bA, bZ, hM⟩ := mv_facts d1 d2 (S : Int) (by omega) vert
  have u1 : unE V 0 1 2 = 0 := if_pos ⟨by omega, by omega, by decide⟩
  have u2 : (unB V 0 1 2).length = V + 1 := by unfold unB; rw [if_pos u1, cntB_length, Int.toNat_natCast]; rfl
  obtain ⟨X, hX⟩ : ∃ X, escB N K = X := ⟨_, rfl⟩
  obtain ⟨A, hA⟩ : ∃ A, mvB d S vert = A := ⟨_, rfl⟩
  obtain ⟨Z, hZ⟩ : ∃ Z, mvB (-d) S vert = Z := ⟨_, rfl⟩
  obtain ⟨q, hq⟩ : ∃ q, q = N / 2 ^ K := ⟨_, rfl⟩
  rw [hX] at x2 x3 x4 x5
  rw [← hq] at x2 x4 x5
  rw [hA, hZ] at hM
  obtain ⟨xn, hxn⟩ : ∃ xn, xn = X.length := ⟨_, rfl⟩
  obtain ⟨b1, b2⟩ := lgN_bounds q
  obtain ⟨m, hm⟩ : ∃ m, m = lgN q := ⟨_, rfl⟩
  rw [← hm] at b1 b2 x2 x4 x5
  have hq64 : q < 2147483648 := by rw [hq]; exact Nat.lt_of_le_of_lt (Nat.div_le_self _ _) nN
  have hm31 : m ≤ 31 := by rw [hm]; exact lgN_le (by omega)
  rw [← hxn] at x2 x3
  have R := Lib.hid (And.intro hN (And.intro hK (And.intro hD (And.intro hV hS2))))
  have HX := Lib.hid (And.intro x1 (And.intro hX hxn.symm))
  have HX2 := Lib.hid (And.intro x3 (And.intro x4 x5))
  have HY := Lib.hid (And.intro y1 (And.intro y2 (And.intro hA hZ)))
  have HM := Lib.hid hM
  have HU := Lib.hid (And.intro u1 u2)
  have HQ := Lib.hid hq
  have HB := Lib.hid (And.intro b1 b2)
  have HXN := Lib.hid x2
  have hx0 : 0 < xn := by omega
  have hn0 : 0 < n := by have := hM.nl; omega
  clear hN hK hD hV hS2 hX hxn x1 x2 x3 x4 x5 y1 y2 hA hZ hM u1 u2 hq b1 b2 hm
  go_enter Try.func4, Try.ntmps4
  go_wp2_with (first | (go_at_call 10; (with_reducible refine (rest_as R.out.1 (by decide) (by decide) v1 v2 _).mono ?_); rintro e w1 ⟨rfl, rfl⟩) | (go_at_call 10; (with_reducible refine (rest_as R.out.2.1 (by decide) (by decide) k1 k2 _).mono ?_); rintro e w1 ⟨rfl, rfl⟩) | (go_at_call 10; (with_reducible refine (rest_as R.out.2.2.1 (by decide) (by decide) v1 v2 _).mono ?_); rintro e w1 ⟨rfl, rfl⟩) | (go_at_call 10; (with_reducible refine (rest_as R.out.2.2.2.1 (by decide) (by decide) v1 v2 _).mono ?_); rintro e w1 ⟨rfl, rfl⟩) | (go_at_call 10; (with_reducible refine (rest_as R.out.2.2.2.2 (by decide) (by decide) s1 s2 _).mono ?_); rintro e w1 ⟨rfl, rfl⟩) | (go_at_call 11; (with_reducible refine (unary_is hS _ _ _ _ (by omega) (by omega) HU.out.1 rfl HU.out.2).mono ?_); rintro e w1 ⟨su, cu, rfl, h1⟩) | (go_at_call 12; (with_reducible refine (escape_is (v := N) h1 rfl (by omega) HX.out.1 HX.out.2.1 HX.out.2.2 hx0).mono ?_); rintro e w2 ⟨gx, cx, rfl, h2⟩) | (go_at_call 13; (with_reducible refine (mvd_as (v := d) h2 (by omega) _ _ HY.out.1 HY.out.2.2.1 HM.out.al hn0).mono ?_); rintro e w3 ⟨ga, ca, rfl, h3⟩) | (go_at_call 13; (with_reducible refine (mvd_as (v := -d) h3 (by omega) _ _ HY.out.2.1 HY.out.2.2.2 HM.out.zl hn0).mono ?_); rintro e w4 ⟨gz, cz, rfl, h4⟩))
  have H4 := Lib.hid h4
  clear h1 h2 h3 h4
  go_loopw [20] (fun i wr => ∃ c : Nat, c ≤ m ∧ i = .int .i64 c ∧ Hp W wr [aBs gz n cz Z, aBs ga n ca A, aBs gx xn cx X, aBn (.slice su (V + 1) cu) (unB V 0 1 2)] []) (fun i _ => m - (intOf i).toNat)
  case atStart => exact ⟨0, Nat.zero_le _, rfl, H4.out⟩
  case round =>
    obtain ⟨c, hc, rfl, h5⟩ := hrel
    have H5 := Lib.hid h5
    clear h5
    have hc63 : c < 63 := by omega
    obtain ⟨P, hP⟩ : ∃ P : Nat, P = 2 * 2 ^ c := ⟨_, rfl⟩
    have hP63 : P ≤ 9223372036854775807 := by
      have : 2 ^ c ≤ 2 ^ 31 := Nat.pow_le_pow_right (by omega) (by omega)
      have e : (2 : Nat) ^ 31 = 2147483648 := by decide
      omega
    have z1 : IntKind.i64.wrap (2 * 2 ^ c) = (P : Int) := by
      have : (2 * 2 ^ c : Int) = (P : Int) := by rw [hP]; simp
      rw [this]
      exact IntWalk.i64_in _ (by omega)
    have z2 : ((N : Int) / 2 ^ K) = (q : Int) := by rw [HQ.out]; simp
    have z3 : IntKind.i64.wrap ((q : Int) + 1) = (q : Int) + 1 := IntWalk.i64_in _ (by omega)
    have HP := Lib.hid hP
    clear hP
    by_cases hcm : c < m
    · have z4 : decide ((P : Int) ≤ (q : Int) + 1) = true := by
        have h1 : 2 ^ (c + 1) ≤ 2 ^ m := Nat.pow_le_pow_right (by omega) (by omega)
        have h2 := HP.out
        have h3 := HB.out.1
        rw [Nat.pow_succ] at h1
        simp
        omega
      clear hP63
      go_wp2_with (fail)
      go_quiet (fail)
      go_wp2_with (fail)
      go_roundw
      case rel => exact ⟨c + 1, by omega, by go_num, H5.out.drewN nq⟩
      case measure => simp [intOf]; omega
    · obtain rfl : c = m := by omega
      have z4 : decide ((P : Int) ≤ (q : Int) + 1) = false := by
        have h2 := HP.out
        have h3 := HB.out.2
        rw [Nat.pow_succ] at h3
        simp
        omega
      have z5 : xn ≤ K + 1 + 2 * c := by have := HXN.out; omega
      have z6 : K + 1 + 2 * c ≤ xn := by have := HXN.out; omega
      clear hP63
      go_wp2_with (fail)
      go_quiet (fail)
      have z7 : ((xn : Int) != (K : Int) + 1 + 2 * (c : Int)) = false := by simp; omega
      clear z1 z2 z3 z4
      go_wp2_with (fail)
      clear z7
      have H6 := Lib.hid (H5.out.drewN nq)
      go_loopw [21] (fun i wr => ∃ j : Nat, j ≤ xn ∧ i = .int .i64 j ∧ Hp W wr [aBs gz n cz Z, aBs ga n ca A, aBs gx xn cx X, aBn (.slice su (V + 1) cu) (unB V 0 1 2)] []) (fun i _ => xn - (intOf i).toNat)
      case atStart => exact ⟨0, Nat.zero_le _, rfl, H6.out⟩
      case round =>
        obtain ⟨j, hj, rfl, h7⟩ := hrel
        by_cases hjx : j < xn
        · have x1 := (h7.bnAt 2 at2 (by have := HX.out.2.2; omega)).1
          obtain ⟨c1, c2⟩ := x1.get hjx
          rw [HX2.out.1 j hjx] at c1
          simp only [Nat.zero_add] at c1 c2
          have H7 := Lib.hid h7
          clear h7 x1
          by_cases hjc : j < c
          · rw [HX2.out.2.1 j hjc] at c2
            go_wp2_with (fail)
            go_roundw
            case rel => exact ⟨j + 1, by omega, by go_num, H7.out⟩
            case measure => simp [intOf]; omega
          · by_cases hje : j = c
            · subst hje
              rw [HX2.out.2.2] at c2
              go_wp2_with (fail)
              go_roundw
              case rel => exact ⟨j + 1, by omega, by go_num, H7.out⟩
              case measure => simp [intOf]; omega
            · generalize (X.getD j (0, 0)).2 = z at c2
              go_wp2_with (fail)
              go_roundw
              case rel => exact ⟨j + 1, by omega, by go_num, H7.out⟩
              case measure => simp [intOf]; omega
        · have hxl : xn ≤ 100000 := by omega
          have a1 := (h7.bnAt 1 at1 (by have := HM.out.al; have := HM.out.n32; omega)).1
          have a2 := (h7.bnAt 1 at1 (by have := HM.out.al; have := HM.out.n32; omega)).2.1
          have e1 := (h7.bnAt 0 at0 (by have := HM.out.zl; have := HM.out.n32; omega)).1
          have e2 := (h7.bnAt 0 at0 (by have := HM.out.zl; have := HM.out.n32; omega)).2.1
          have hln : l < n := by have := HM.out.nl; omega
          have hnl : (n : Int) - 1 = (l : Int) := by have := HM.out.nl; omega
          have hn32 : n ≤ 32 := HM.out.n32
          obtain ⟨hsa, ba⟩ := slice_to a1 a2 (show l ≤ n by omega)
          obtain ⟨hsz, bz⟩ := slice_to e1 e2 (show l ≤ n by omega)
          have eqv : ∀ w, Hp W w [aBs gz n cz Z, aBs ga n ca A, aBs gx xn cx X, aBn (.slice su (V + 1) cu) (unB V 0 1 2)] [] → Calls Try.prog 8 #[.slice (some ⟨ga, 0, none⟩) l ca, .slice (some ⟨gz, 0, none⟩) l cz] w fun e w' => e = .returned (.bool true) ∧ Hp W w' [aBs gz n cz Z, aBs ga n ca A, aBs gx xn cx X, aBn (.slice su (V + 1) cu) (unB V 0 1 2)] [] := fun w h => by
            have a1 := (slice_to (h.bnAt 1 at1 (by have := HM.out.al; have := HM.out.n32; omega)).1 a2 (show l ≤ n by omega)).2
            have a3 := (slice_to (h.bnAt 0 at0 (by have := HM.out.zl; have := HM.out.n32; omega)).1 e2 (show l ≤ n by omega)).2
            refine (equal_is h a1 a3 (r := true) (decide_eq_true (by rw [HM.out.ta, HM.out.tz]))).mono ?_
            rintro e w' ⟨rfl, h', _⟩
            exact ⟨rfl, h'⟩
          have EQ := Lib.hid eqv
          obtain ⟨c1, c2⟩ := a1.get hln
          obtain ⟨f1, f2⟩ := e1.get hln
          have hca := HM.out.ca
          have hcz := HM.out.cz
          have hba := HM.out.ba
          have hbz := HM.out.bz
          have hone := HM.out.one
          have H7 := Lib.hid h7
          clear h7 a1 a2 e1 e2 ba bz eqv
          simp only [Nat.zero_add] at c1 c2 f1 f2
          rcases Int.lt_trichotomy d 0 with hd0 | hd0 | hd0
          · rw [hca (by omega)] at c1 c2
            rw [hcz (by omega)] at f1 f2
            rw [if_pos hd0] at hba hbz
            rw [hba] at c2
            rw [hbz] at f2
            have i1 : (d == 0) = false := by simp; omega
            have i2 : (d != 0) = true := by simp; omega
            have i3 : ((n : Int) == 1) = false := by
              have : n ≠ 1 := fun e => by rw [e] at hone; simp at hone; omega
              simp; omega
            have i4 : decide (d < 0) = true := decide_eq_true hd0
            have i5 : ((n : Int) == 0) = false := by simp; omega
            have i6 : ((n : Int) != (n : Int)) = false := by simp
            have i7 : decide ((32 : Int) < (n : Int)) = false := by simp; omega
            have i8 : decide (32 < n) = false := by simp; omega
            clear hca hcz hba hbz hone
            simp only at c1 c2 f1 f2
            go_wp2_with (fail)
            go_quiet (fail)
            go_wp2_with (fail)
            haveI : Nonempty (HpV W [aBs gz n cz Z, aBs ga n ca A, aBs gx xn cx X, aBn (.slice su (V + 1) cu) (unB V 0 1 2)] []) := ⟨⟨_, H7.out⟩⟩
            refine wp_region_hv (H7.out.drewN nq) (by kernel_rfl) (by kernel_rfl) ?_
            repeat (go_big_quiet_step ((first | (go_at_call 8; exact HpV.call (EQ.out _ (HpV.h _))) | (go_at_call 9; exact HpV.call (alive_any (HpV.h _))))))
            refine wpQuiet_nil ?_
            rintro _ ⟨⟨wq, hq⟩, rfl⟩
            go_wp2_with (fail)
            exact bodyPost_ret (results_tmp rfl _ _ _) rfl ⟨rfl, hq.below⟩
          · have i1 : (d == 0) = true := by simp; omega
            have i2 : (d != 0) = false := by simp; omega
            have i3 : ((n : Int) == 1) = true := by
              have : n = 1 := by rw [← hone]; exact hd0
              simp; omega
            have i5 : ((n : Int) == 0) = false := by simp; omega
            have i6 : ((n : Int) != (n : Int)) = false := by simp
            have i7 : decide ((32 : Int) < (n : Int)) = false := by simp; omega
            have i8 : decide (32 < n) = false := by simp; omega
            clear hca hcz hba hbz hone c1 c2 f1 f2 hd0
            go_wp2_with (fail)
            go_quiet (fail)
            go_wp2_with (fail)
            haveI : Nonempty (HpV W [aBs gz n cz Z, aBs ga n ca A, aBs gx xn cx X, aBn (.slice su (V + 1) cu) (unB V 0 1 2)] []) := ⟨⟨_, H7.out⟩⟩
            refine wp_region_hv (H7.out.drewN nq) (by kernel_rfl) (by kernel_rfl) ?_
            repeat (go_big_quiet_step ((first | (go_at_call 8; exact HpV.call (EQ.out _ (HpV.h _))) | (go_at_call 9; exact HpV.call (alive_any (HpV.h _))))))
            refine wpQuiet_nil ?_
            rintro _ ⟨⟨wq, hq⟩, rfl⟩
            go_wp2_with (fail)
            exact bodyPost_ret (results_tmp rfl _ _ _) rfl ⟨rfl, hq.below⟩
          · rw [hca (by omega)] at c1 c2
            rw [hcz (by omega)] at f1 f2
            rw [if_neg (by omega)] at hba hbz
            rw [hba] at c2
            rw [hbz] at f2
            have i1 : (d == 0) = false := by simp; omega
            have i2 : (d != 0) = true := by simp; omega
            have i3 : ((n : Int) == 1) = false := by
              have : n ≠ 1 := fun e => by rw [e] at hone; simp at hone; omega
              simp; omega
            have i4 : decide (d < 0) = false := decide_eq_false (by omega)
            have i5 : ((n : Int) == 0) = false := by simp; omega
            have i6 : ((n : Int) != (n : Int)) = false := by simp
            have i7 : decide ((32 : Int) < (n : Int)) = false := by simp; omega
            have i8 : decide (32 < n) = false := by simp; omega
            clear hca hcz hba hbz hone
            simp only at c1 c2 f1 f2
            go_wp2_with (fail)
            go_quiet (fail)
            go_wp2_with (fail)
            haveI : Nonempty (HpV W [aBs gz n cz Z, aBs ga n ca A, aBs gx xn cx X, aBn (.slice su (V + 1) cu) (unB V 0 1 2)] []) := ⟨⟨_, H7.out⟩⟩
            refine wp_region_hv (H7.out.drewN nq) (by kernel_rfl) (by kernel_rfl) ?_
            repeat (go_big_quiet_step ((first | (go_at_call 8; exact HpV.call (EQ.out _ (HpV.h _))) | (go_at_call 9; exact HpV.call (alive_any (HpV.h _))))))
            refine wpQuiet_nil ?_
            rintro _ ⟨⟨wq, hq⟩, rfl⟩
            go_wp2_with (fail)
            exact bodyPost_ret (results_tmp rfl _ _ _) rfl ⟨rfl, hq.below⟩
end

end Go.Proofs.Ytnefiaghojojgaa
