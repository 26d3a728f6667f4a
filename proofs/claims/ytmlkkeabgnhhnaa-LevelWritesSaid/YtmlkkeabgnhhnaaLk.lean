/- The law's own functions: mod, pair, made, fit, known. -/
import Derived.Test.YtmlkkeabgnhhnaaLs
namespace Go.Proofs.Ytmlkkeabgnhhnaa
open Go.RowKit
set_option linter.unusedVariables false
set_option maxRecDepth 100000
set_option linter.unusedSimpArgs false

theorem lput_as {W w : World} {L : List AObj} {F : List (Nat × Obj)} {b b' K l sk : Nat} {B : List Bool} (h : Hp W w L F) (k j : Nat) (hkj : k ≠ j) (hk : L[k]? = some (aCo b K l sk)) (hj : L[j]? = some (aWr b' B)) (hb : K ≤ 6 ∧ l ≤ 16 ∧ (sk = 0 ∨ sk = 2) ∧ B.length ≤ 2 ^ 39) (v : Int) (hv1 : -9223372036854775808 ≤ v) (hv2 : v < 9223372036854775808)
    {e0 : Int} {B' : List Bool} {K' l' s' : Nat} (hx : lpE K l sk v = e0 ∧ lpB B K l sk v = B' ∧ lpK K l sk v = K' ∧ lpL K l sk v = l' ∧ lpS K l sk v = s') :
    Calls Try.prog 15 #[.pointer (some ⟨b, 0, none⟩), .pointer (some ⟨b', 0, none⟩), .int .i64 v] w fun e w' => e = .returned (.int .i64 e0) ∧ Hp W w' ((L.set j (aWr b' B')).set k (aCo b K' l' s')) F := by
  obtain ⟨rfl, rfl, rfl, rfl, rfl⟩ := hx
  exact lput_any h k j hkj hk hj hb.1 hb.2.1 hb.2.2.1 hb.2.2.2 v hv1 hv2
theorem lread_as {W w : World} {L : List AObj} {F : List (Nat × Obj)} {b rb K l sk i : Nat} {s : ByteArray} (h : Hp W w L F) (k j : Nat) (hkj : k ≠ j) (hk : L[k]? = some (aCo b K l sk)) (hj : L[j]? = some (aRd rb s i)) (hb : K ≤ 6 ∧ l ≤ 16 ∧ sk ≤ 2)
    {e0 z : Int} {i' K' l' s' : Nat} (hx : lrE K l s i = e0 ∧ lrV K l sk s i = z ∧ lrI K l s i = i' ∧ lrK K l sk s i = K' ∧ lrL K l s i = l' ∧ lrS K l sk s i = s') :
    Calls Try.prog 30 #[.pointer (some ⟨b, 0, none⟩), .pointer (some ⟨rb, 0, none⟩)] w fun e w' => e = .returned (.tuple #[.int .i64 z, .int .i64 e0]) ∧ Hp W w' ((L.set j (aRd rb s i')).set k (aCo b K' l' s')) F := by
  obtain ⟨rfl, rfl, rfl, rfl, rfl, rfl⟩ := hx
  exact lread_any h k j hkj hk hj hb.1 hb.2.1 hb.2.2
theorem lread_zero (K sk : Nat) (s : ByteArray) (i : Nat) : lrE K 0 s i = 8 ∧ lrV K 0 sk s i = 0 ∧ lrI K 0 s i = i ∧ lrK K 0 sk s i = K ∧ lrL K 0 s i = 0 ∧ lrS K 0 sk s i = sk := ⟨rfl, rfl, rfl, rfl, rfl, rfl⟩
theorem lput_zero (B : List Bool) (K sk : Nat) (v : Int) : lpE K 0 sk v = 8 ∧ lpB B K 0 sk v = B ∧ lpK K 0 sk v = K ∧ lpL K 0 sk v = 0 ∧ lpS K 0 sk v = sk := ⟨rfl, rfl, rfl, rfl, rfl⟩
theorem new_as {W w : World} {L : List AObj} {F : List (Nat × Obj)} (h : Hp W w L F) (t o : Nat) {x y : Int} (hx : x = (t : Int)) (hy : y = (o : Int)) (ht : t ≤ 16) (ho : o ≤ 3) (hto : o ≤ t) {K l s : Nat} (hs : k0 t o = K ∧ t - o = l ∧ s0 o = s) :
    Calls Try.prog 11 #[.int .i64 x, .int .i64 y] w fun e w' => ∃ b, e = .returned (.tuple #[.pointer (some ⟨b, 0, none⟩), .int .i64 0]) ∧ Hp W w' (aCo b K l s :: L) F := by
  obtain ⟨rfl, rfl, rfl⟩ := hs
  subst hx; subst hy
  exact new_ok h t o ht ho hto

theorem lknown_any {W w : World} {L : List AObj} {F : List (Nat × Obj)} (h : Hp W w L F) :
    Calls Try.prog 10 #[] w fun e w' => e = .returned (.bool true) ∧ Hp W w' L F := by
  have H := Lib.hid h
  clear h
  have P1 := Lib.hid (show lpE 0 2 2 2 = 0 ∧ lpB [] 0 2 2 2 = [true] ∧ lpK 0 2 2 2 = 1 ∧ lpL 0 2 2 2 = 1 ∧ lpS 0 2 2 2 = 0 by decide +kernel)
  have P2 := Lib.hid (show lpE 1 1 0 (-1) = 0 ∧ lpB [true] 1 1 0 (-1) = [true, true, true] ∧ lpK 1 1 0 (-1) = 1 ∧ lpL 1 1 0 (-1) = 0 ∧ lpS 1 1 0 (-1) = 0 by decide +kernel)
  have P3 := Lib.hid (show strB [true, true, true] = ⟨#[49, 49, 49]⟩ by decide +kernel)
  have P0 := Lib.hid (show k0 2 0 = 0 ∧ 2 - 0 = 2 ∧ s0 0 = 2 by decide)
  go_enter Try.func10, Try.ntmps10
  go_wp2_with (first | (go_at_call 11; (with_reducible refine (new_as H.out 2 0 (by omega) (by omega) (by decide) (by decide) (by decide) P0.out).mono ?_); rintro e w1 ⟨cb, rfl, h1⟩) | (go_at_call 13; (with_reducible refine (write_any h1).mono ?_); rintro e w2 ⟨wb, rfl, h2⟩; clear h1) | (go_at_call 15; (with_reducible refine (lput_as h2 1 0 (by decide) at1 at0 (by decide) 2 (by decide) (by decide) P1.out).mono ?_); rintro e w3 ⟨rfl, h3⟩; simp only [set0, set1] at h3; clear h2) | (go_at_call 15; (with_reducible refine (lput_as h3 1 0 (by decide) at1 at0 (by decide) (-1) (by decide) (by decide) P2.out).mono ?_); rintro e w4 ⟨rfl, h4⟩; simp only [set0, set1] at h4; clear h3) | (go_at_call 21; (with_reducible refine (wbits_eq h4 0 at0 (by decide) P3.out).mono ?_); rintro e w5 ⟨rfl, h5⟩; clear h4))
  exact bodyPost_ret (results_tmp rfl _ _ _) rfl ⟨rfl, h5.tail.tail⟩

theorem mod_any (x n : Int) (hn : 1 ≤ n) (hn2 : n ≤ 1048576) (hx1 : -9223372036854775808 ≤ x) (hx2 : x < 9223372036854775808) (w : World) :
    Calls Try.prog 26 #[.int .i64 x, .int .i64 n] w fun e w' => e = .returned (.int .i64 (x % n)) ∧ w = w' := by
  have h1 : x.tmod n < n := Int.tmod_lt_of_pos x (by omega)
  have h2 : -n < x.tmod n := Int.lt_tmod_of_pos x (by omega)
  have e : (x.tmod n + n) % n = x % n := by
    rw [Int.add_emod_right]
    rw [Int.tmod_def]
    exact Int.sub_mul_emod_self_left x n _
  have e2 : (x.tmod n + n).tmod n = x % n := by rw [Int.tmod_eq_emod_of_nonneg (by omega), e]
  have hw : IntKind.i64.wrap (x.tmod n + n) = x.tmod n + n := by rw [IntKind.wrap_i64]; omega
  have hn0 : ¬ n = 0 := by omega
  clear e
  go_enter Try.func26, Try.ntmps26
  go_wp2_with (fail)
  exact bodyPost_ret (results_tmp rfl _ _ _) rfl ⟨rfl, rfl⟩

theorem mod_as (x n : Int) {d : Int} (hd : d = n) (hn : 1 ≤ d) (hn2 : d ≤ 1048576) (hx1 : -9223372036854775808 ≤ x) (hx2 : x < 9223372036854775808) {y : Int} (hy : x % d = y) (w : World) :
    Calls Try.prog 26 #[.int .i64 x, .int .i64 n] w fun e w' => e = .returned (.int .i64 y) ∧ w = w' := by
  subst hy
  subst hd
  exact mod_any x d hn hn2 hx1 hx2 w
theorem pair_as (t0 o0 : Int) (ht1 : -9223372036854775808 ≤ t0) (ht2 : t0 < 9223372036854775808) (ho1 : -9223372036854775808 ≤ o0) (ho2 : o0 < 9223372036854775808) (w : World) {t1 m o : Nat} (M1 : Hid (t0 % 16 = (t1 : Int))) (ht1' : t1 ≤ 15) (hm : m = min 3 t1) (M2 : Hid (o0 % ((m : Int) + 1) = (o : Int))) (hom : o ≤ m) {x y : Int} (hx : x = (t1 : Int) + 1) (hy : y = (o : Int)) :
    Calls Try.prog 23 #[.int .i64 t0, .int .i64 o0] w fun e w' => e = .returned (.tuple #[.int .i64 x, .int .i64 y]) ∧ w = w' := by
  by_cases h3 : 3 < t1
  · obtain rfl : m = 3 := by omega
    clear hm
    have HX := Lib.hid hx
    have HY := Lib.hid hy
    clear hx hy
    go_enter Try.func23, Try.ntmps23
    go_wp2_with (first | (go_at_call 26; (with_reducible refine (mod_as t0 16 rfl (by omega) (by omega) ht1 ht2 M1.out _).mono ?_); rintro e w1 ⟨rfl, rfl⟩) | (go_at_call 26; (with_reducible refine (mod_as o0 _ (by omega) (by omega) (by omega) ho1 ho2 M2.out _).mono ?_); rintro e w1 ⟨rfl, rfl⟩))
    all_goals
      refine bodyPost_ret (results_tmp2 rfl _ _ _) rfl ⟨?_, rfl⟩
      rw [HX.out, HY.out, Int.add_comm]
      rfl
  · obtain rfl : t1 = m := by omega
    clear hm
    have HX := Lib.hid hx
    have HY := Lib.hid hy
    clear hx hy
    go_enter Try.func23, Try.ntmps23
    go_wp2_with (first | (go_at_call 26; (with_reducible refine (mod_as t0 16 rfl (by omega) (by omega) ht1 ht2 M1.out _).mono ?_); rintro e w1 ⟨rfl, rfl⟩) | (go_at_call 26; (with_reducible refine (mod_as o0 _ (by omega) (by omega) (by omega) ho1 ho2 M2.out _).mono ?_); rintro e w1 ⟨rfl, rfl⟩))
    all_goals
      refine bodyPost_ret (results_tmp2 rfl _ _ _) rfl ⟨?_, rfl⟩
      rw [HX.out, HY.out, Int.add_comm]
      rfl
theorem pair_any (t0 o0 : Int) (ht1 : -9223372036854775808 ≤ t0) (ht2 : t0 < 9223372036854775808) (ho1 : -9223372036854775808 ≤ o0) (ho2 : o0 < 9223372036854775808) (w : World) :
    Calls Try.prog 23 #[.int .i64 t0, .int .i64 o0] w fun e w' => ∃ t o : Nat, 1 ≤ t ∧ t ≤ 16 ∧ o ≤ 3 ∧ o < t ∧ e = .returned (.tuple #[.int .i64 t, .int .i64 o]) ∧ w = w' := by
  obtain ⟨t1, hm⟩ : ∃ t1 : Nat, t0 % 16 = (t1 : Int) := ⟨(t0 % 16).toNat, by omega⟩
  obtain ⟨m, hmm⟩ : ∃ m : Nat, m = min 3 t1 := ⟨_, rfl⟩
  obtain ⟨o, ho⟩ : ∃ o : Nat, o0 % ((m : Int) + 1) = (o : Int) := ⟨(o0 % ((m : Int) + 1)).toNat, by have := Int.emod_nonneg o0 (show (m : Int) + 1 ≠ 0 by omega); omega⟩
  have hom : o ≤ m := by have := Int.emod_lt_of_pos o0 (show (0 : Int) < (m : Int) + 1 by omega); omega
  refine (pair_as t0 o0 ht1 ht2 ho1 ho2 w (Lib.hid hm) (by omega) hmm (Lib.hid ho) hom (x := ((t1 + 1 : Nat) : Int)) (y := (o : Int)) (by omega) rfl).mono ?_
  rintro e w' ⟨rfl, rfl⟩
  exact ⟨t1 + 1, o, by omega, by omega, by omega, by omega, rfl, rfl⟩

theorem made_any {W w : World} {L : List AObj} {F : List (Nat × Obj)} (h : Hp W w L F) (t o : Nat) {x y : Int} (hx : x = (t : Int)) (hy : y = (o : Int)) (ht : t ≤ 16) (ho : o ≤ 3) (hto : o ≤ t) {K l s : Nat} (hs : k0 t o = K ∧ t - o = l ∧ s0 o = s) :
    Calls Try.prog 24 #[.int .i64 x, .int .i64 y] w (Makes W L F fun b => aCo b K l s) := by
  have H := Lib.hid h
  have HS := Lib.hid hs
  subst hx; subst hy
  clear h hs
  go_enter Try.func24, Try.ntmps24
  go_wp2_with (first | (go_at_call 11; (with_reducible refine (new_as H.out t o rfl rfl ht ho hto HS.out).mono ?_); rintro e w1 ⟨cb, rfl, h1⟩))
  exact bodyPost_ret (results_tmp rfl _ _ _) rfl ⟨cb, rfl, h1⟩

theorem lmost_big {K l sk : Nat} (hK : K ≤ 6) (hl : l ≠ 0) : 2063 ≤ lmost K l sk := by have := (esc_le K hK).1; unfold lmost mst; rw [if_neg hl]; omega
theorem lmost_le {K l sk : Nat} (hK : K ≤ 6) (hsk : sk ≤ 2) : lmost K l sk ≤ 2529 := by have := (esc_le K hK).2; unfold lmost mst; split <;> omega

theorem fit_any {W w : World} {L : List AObj} {F : List (Nat × Obj)} {b K l sk : Nat} (h : Hp W w L F) (k : Nat) (hk : L[k]? = some (aCo b K l sk)) (hK : K ≤ 6) (hsk : sk ≤ 2) (hl : l ≠ 0) (v : Int) (hv1 : -9223372036854775808 ≤ v) (hv2 : v < 9223372036854775808) (first : Bool) :
    Calls Try.prog 25 #[.pointer (some ⟨b, 0, none⟩), .int .i64 v, .bool first] w fun e w' => ∃ x : Int, e = .returned (.int .i64 x) ∧ 1 ≤ x.natAbs ∧ x.natAbs ≤ lmost K l sk ∧ (first = true → 2 ≤ x.natAbs) ∧ Hp W w' L F := by
  have h1 := lmost_big (sk := sk) hK hl
  have h2 := lmost_le (l := l) hK hsk
  have H := Lib.hid h
  have HK := Lib.hid hk
  clear h hk
  obtain ⟨M, hM⟩ : ∃ M, lmost K l sk = M := ⟨_, rfl⟩
  rw [hM] at h1 h2
  obtain ⟨r, hr⟩ : ∃ r : Nat, v % (M : Int) = (r : Int) := ⟨(v % (M : Int)).toNat, by have := Int.emod_nonneg v (show (M : Int) ≠ 0 by omega); omega⟩
  have hrM : r < M := by have := Int.emod_lt_of_pos v (show (0 : Int) < (M : Int) by omega); omega
  have M1 := Lib.hid hr
  clear hr
  have d1 : decide (M < 3) = false := by simp; omega
  cases first
  all_goals
    go_enter Try.func25, Try.ntmps25
    go_wp2_with (first | (go_at_call 19; (with_reducible refine (most_any H.out k HK.out hK hsk).mono ?_); rintro e w1 ⟨rfl, g1⟩) | (go_at_call 26; (with_reducible refine (mod_as v _ (by omega) (by omega) (by omega) hv1 hv2 M1.out _).mono ?_); rintro e w1 ⟨rfl, rfl⟩))
  all_goals
    refine bodyPost_ret (results_tmp rfl _ _ _) rfl ⟨_, rfl, ?_, ?_, ?_, g1⟩
    all_goals first | omega | (intro h; first | omega | cases h; done | (have h1 := ‹(1 + (r : Int) == 1) = false›; simp at h1; omega))

end Go.Proofs.Ytmlkkeabgnhhnaa
