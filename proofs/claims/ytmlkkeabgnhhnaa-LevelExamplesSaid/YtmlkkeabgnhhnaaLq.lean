/- The walk of LevelCopies. -/
import Derived.Test.YtmlkkeabgnhhnaaLy
import Derived.Deep.RegionHeld3
namespace Go.Proofs.Ytmlkkeabgnhhnaa
open Go.RowKit
set_option linter.unusedVariables false
set_option maxRecDepth 100000
set_option linter.unusedSimpArgs false

theorem at5 {a b c d e f : AObj} {l : List AObj} : (a :: b :: c :: d :: e :: f :: l)[5]? = some f := rfl
theorem at6 {a b c d e f g : AObj} {l : List AObj} : (a :: b :: c :: d :: e :: f :: g :: l)[6]? = some g := rfl
theorem set5 {a b c d e f x : AObj} {l : List AObj} : (a :: b :: c :: d :: e :: f :: l).set 5 x = a :: b :: c :: d :: e :: x :: l := rfl
theorem set6 {a b c d e f g x : AObj} {l : List AObj} : (a :: b :: c :: d :: e :: f :: g :: l).set 6 x = a :: b :: c :: d :: e :: f :: x :: l := rfl
theorem lput_nilw (b : Nat) (v : Int) (w : World) : Calls Try.prog 15 #[.pointer (some ⟨b, 0, none⟩), .pointer none, .int .i64 v] w fun e w' => e = .returned (.int .i64 1) ∧ w = w' := by
  go_enter Try.func15, Try.ntmps15
  go_wp2_with (fail)
  exact bodyPost_ret (results_tmp rfl _ _ _) rfl ⟨rfl, rfl⟩
theorem kcell {W w : World} {L : List AObj} {F : List (Nat × Obj)} (h : Hp W w L F) {b i : Nat} {v : Value} (hb : b < W.heap.size) (hw : W.cell? ⟨b, i, none⟩ = some v) : w.cell? ⟨b, i, none⟩ = some v := (h.below.cell (p := ⟨b, i, none⟩) hb).trans hw
theorem lpB_app (B : List Bool) (K l s : Nat) (v : Int) : lpB B K l s v = B ++ lpB [] K l s v := by unfold lpB; split <;> simp
theorem lpB_len {K l s : Nat} {v : Int} (hK : K ≤ 6) (hs : s = 0 ∨ s = 2) : (lpB [] K l s v).length ≤ 28 := by
  by_cases h : lpE K l s v = 0
  · have := (put_ok (B := []) hK hs h).2.2.2.2; simpa using this
  · unfold lpB; rw [if_neg h]; simp
theorem lp_bounds {K l s : Nat} {v : Int} (hK : K ≤ 6) (hl : l ≤ 16) (hs : s = 0 ∨ s = 2) : lpK K l s v ≤ 6 ∧ lpL K l s v ≤ 16 ∧ (lpS K l s v = 0 ∨ lpS K l s v = 2) := by
  by_cases h : lpE K l s v = 0
  · obtain ⟨h1, h2, h3, _⟩ := put_ok (B := []) hK hs h
    exact ⟨h1, by omega, Or.inl h3⟩
  · unfold lpK lpL lpS; rw [if_neg h, if_neg h, if_neg h]; exact ⟨hK, hl, hs⟩
theorem strB_app (A B : List Bool) : strB (A ++ B) = strB A ++ strB B := by
  unfold strB
  apply ByteArray.ext
  simp

set_option maxHeartbeats 4000000 in
theorem lcpy_walk {W : World} {sp : Option Addr} {n cap b o' : Nat} {C : Nat → List Value} (t0 o0 : Int) (b1 : -9223372036854775808 ≤ t0) (b2 : t0 < 9223372036854775808) (b3 : -9223372036854775808 ≤ o0) (b4 : o0 < 9223372036854775808) (hin : RowsIn Try.prog W [.int .i64] sp n b o' C) (hn63 : n ≤ 9223372036854775807) :
    Calls Try.prog 5 #[.int .i64 t0, .int .i64 o0, .slice sp n cap] W fun e w' => e = .returned (.bool true) ∧ Below W.heap.size W w' := by
  have hS := Hp.start W
  have HIN := Lib.hid hin
  clear hin
  by_cases hn : n ≤ 20
  · have hnd : decide ((20 : Int) < (n : Int)) = false := by simp; omega
    go_enter Try.func5, Try.ntmps5
    go_wp2_with (first | (go_at_call 23; (with_reducible refine (pair_any t0 o0 b1 b2 b3 b4 _).mono ?_); rintro e w1 ⟨t, o, p1, p2, p3, p4, rfl, rfl⟩) | (go_at_call 24; (with_reducible refine (made_any hS t o rfl rfl p2 p3 (by omega) ⟨rfl, rfl, rfl⟩).mono ?_); rintro e w1 ⟨cb, rfl, h1⟩; clear hS) | (go_at_call 13; (with_reducible refine (write_any h1).mono ?_); rintro e w1 ⟨wb, rfl, h2⟩; clear h1))
    have HS := Lib.hid h2
    clear h2
    go_loopw [11] (fun i' wr => ∃ (N K l s : Nat) (B : List Bool), i' = .int .i64 N ∧ N ≤ n ∧ (K ≤ 6 ∧ l ≤ 16 ∧ (s = 0 ∨ s = 2)) ∧ B.length ≤ 28 * N ∧ Hp W wr [aWr wb B, aCo cb K l s] []) (fun i' _ => n - (intOf i').toNat)
    case atStart => exact ⟨0, _, _, _, [], rfl, Nat.zero_le _, ⟨by unfold k0; split <;> omega, by omega, by unfold s0; split <;> omega⟩, by simp, HS.out⟩
    case round =>
      obtain ⟨N, K, l, s, B, rfl, hN, hKs, hB, g⟩ := hrel
      by_cases hlt : N < n
      · obtain ⟨rfl, hblt⟩ := HIN.out.at_ (by omega)
        obtain ⟨k0', k1⟩ := HIN.out.int hlt 0 (k := .i64) rfl
        simp only [List.length_singleton, Nat.mul_one, Nat.add_zero] at k0'
        obtain ⟨q1, q2⟩ := bounds_i64 k1
        clear k1
        generalize zat C N 0 = v at *
        have KW := Lib.hid k0'
        clear k0'
        have HV1 := Lib.hid q1
        have HV2 := Lib.hid (show v < 9223372036854775808 by omega)
        obtain ⟨hK, hl, hs⟩ := hKs
        have hb0 : K ≤ 6 ∧ l ≤ 16 ∧ (s = 0 ∨ s = 2) ∧ ([] : List Bool).length ≤ 2 ^ 39 := ⟨hK, hl, hs, by decide⟩
        have hb5 : K ≤ 6 ∧ l ≤ 16 ∧ (s = 0 ∨ s = 2) ∧ B.length ≤ 2 ^ 39 := ⟨hK, hl, hs, by omega⟩
        have hA28 := lpB_len (l := l) (v := v) hK hs
        have hbd := lp_bounds (v := v) hK hl hs
        have happ := lpB_app B K l s v
        obtain ⟨e0, he0⟩ : ∃ e, lpE K l s v = e := ⟨_, rfl⟩
        obtain ⟨X, hX⟩ : ∃ x, lpB [] K l s v = x := ⟨_, rfl⟩
        obtain ⟨B1, hB1⟩ : ∃ x, lpB B K l s v = x := ⟨_, rfl⟩
        obtain ⟨K1, hK1⟩ : ∃ x, lpK K l s v = x := ⟨_, rfl⟩
        obtain ⟨l1, hl1⟩ : ∃ x, lpL K l s v = x := ⟨_, rfl⟩
        obtain ⟨s1, hs1⟩ : ∃ x, lpS K l s v = x := ⟨_, rfl⟩
        have hX0 : ¬ e0 = 0 → X = [] := fun h => by rw [← hX]; exact if_neg (by rw [he0]; exact h)
        rw [hX] at hA28 happ
        rw [hB1] at happ
        rw [hK1, hl1, hs1] at hbd
        have A1 := Lib.hid (And.intro he0 (And.intro hX (And.intro hK1 (And.intro hl1 hs1))))
        have A2 := Lib.hid (And.intro he0 (And.intro hB1 (And.intro hK1 (And.intro hl1 hs1))))
        have R1 := Lib.hid hbd
        clear hX hB1 hK1 hl1 hs1 he0 hbd
        obtain ⟨Q, hQ⟩ : ∃ q, lmost K1 l1 s1 = q := ⟨_, rfl⟩
        have MQ := Lib.hid (And.intro R1.out.1 (And.intro (show s1 ≤ 2 by have := R1.out.2.2; omega) hQ))
        obtain ⟨SX, hSX⟩ : ∃ S, strB X = S := ⟨_, rfl⟩
        obtain ⟨SY, hSY⟩ : ∃ S, strB B1 = S := ⟨_, rfl⟩
        obtain ⟨nX, hnX⟩ : ∃ q, q = X.length := ⟨_, rfl⟩
        obtain ⟨nB, hnB⟩ : ∃ q, q = B.length := ⟨_, rfl⟩
        have hB1l : B1.length = nB + nX := by rw [happ, List.length_append, hnX, hnB]
        obtain ⟨nC, hnC⟩ : ∃ q, q = B1.length := ⟨_, rfl⟩
        have hA41 : X.length ≤ 2 ^ 41 := by omega
        have hB41 : B.length ≤ 2 ^ 41 := by omega
        have hC41 : B1.length ≤ 2 ^ 41 := by omega
        have hBn : B1.length ≤ 28 * (N + 1) := by omega
        have hnCe : nC = nB + nX := by omega
        have hSYs : SY.size = nB + nX := by rw [← hSY, strB_size]; omega
        have hnX28 : nX ≤ 28 := by omega
        have hnB28 : nB ≤ 28 * N := by omega
        have hwr : IntKind.i64.wrap ((nB : Int) + (nX : Int)) = (nB : Int) + (nX : Int) := by rw [IntKind.wrap_i64]; omega
        have hlt9 : decide ((nB : Int) + (nX : Int) < (nB : Int)) = false := by simp; omega
        have hbs1 : (0 : Int) ≤ (nB : Int) := by omega
        have hbs2 : (nB : Int) ≤ (nB : Int) + (nX : Int) := by omega
        have hsl : SY.extract nB (nB + nX) = SX := by
          rw [← hSY, ← hSX, happ, strB_app]
          exact ByteArray.extract_append_eq_right (by rw [strB_size, hnB]) (by rw [strB_size, strB_size, hnB, hnX])
        have SA := Lib.hid hSX
        have SC := Lib.hid hSY
        have QA := Lib.hid hnX
        have QB := Lib.hid hnB
        have QC := Lib.hid hnC
        have HX0 := Lib.hid hX0
        have HAP := Lib.hid happ
        have HNC := Lib.hid hnCe
        clear hQ hSX hSY hnX hnB hnC hX0 happ hB1l hb0
        have hb0 : K ≤ 6 ∧ l ≤ 16 ∧ (s = 0 ∨ s = 2) ∧ ([] : List Bool).length ≤ 2 ^ 39 := ⟨hK, hl, hs, by decide⟩
        obtain rfl : nC = nB + nX := hnCe
        by_cases he : e0 = 0
        · subst he
          clear HX0
          go_wp2_with (first | (go_at_call 27; (with_reducible refine (lcopy_any g 1 at1).mono ?_); rintro e w1 ⟨d1, rfl, h1⟩; clear g) | (go_at_call 13; (with_reducible refine (write_any h1).mono ?_); rintro e w1 ⟨va, rfl, h2⟩; clear h1) | (go_at_call 13; (with_reducible refine (write_any h2).mono ?_); rintro e w1 ⟨vb, rfl, h3⟩; clear h2))
          have x0 := h3.drew
          clear h3
          have kw0 := kcell x0 hblt KW.out
          go_region_held3 (fun w' => w'.cell? ⟨b, o' + N, none⟩ = some (.int .i64 v)) (first | exact kcell (by assumption) hblt KW.out | go_keep) (first | (go_at_call 15; (with_reducible refine (lput_as x0 2 1 (by decide) at2 at1 hb0 v HV1.out HV2.out A1.out).mono ?_); rintro e w2 ⟨rfl, x1⟩; simp only [set1, set2] at x1) | (go_at_call 27; (with_reducible refine (lcopy_any x1 4 at4).mono ?_); rintro e w1 ⟨d2, rfl, x2⟩) | (go_at_call 15; (with_reducible refine (lput_as x2 0 1 (by decide) at0 at1 hb0 v HV1.out HV2.out A1.out).mono ?_); rintro e w2 ⟨rfl, x3⟩; simp only [set0, set1] at x3))
          have y0 := x3
          clear x0 x1 x2 x3
          have kw1 := kcell y0 hblt KW.out
          go_wp2_with (first | (go_at_call 15; (with_reducible refine (lput_nilw _ _ _).mono ?_); rintro e w2 ⟨rfl, rfl⟩) | (go_at_call 21; (with_reducible refine (wbits_eq y0 2 at2 hA41 SA.out).mono ?_); rintro e w1 ⟨rfl, y1⟩; clear y0) | (go_at_call 21; (with_reducible refine (wbits_eq y1 1 at1 hA41 SA.out).mono ?_); rintro e w1 ⟨rfl, y2⟩; clear y1) | (go_at_call 17; (with_reducible refine (len_is y2 4 at4 hB41 QB.out).mono ?_); rintro e w1 ⟨rfl, y4⟩; clear y2))
          have z0 := y4.drew
          clear y4
          have kw2 := kcell z0 hblt KW.out
          go_region_held3 (fun w' => w'.cell? ⟨b, o' + N, none⟩ = some (.int .i64 v)) (first | exact kcell (by assumption) hblt KW.out | go_keep) (first | (go_at_call 15; (with_reducible refine (lput_as z0 5 4 (by decide) at5 at4 hb5 v HV1.out HV2.out A2.out).mono ?_); rintro e w2 ⟨rfl, z1⟩; simp only [set4, set5] at z1) | (go_at_call 17; (with_reducible refine (len_is z1 4 at4 hC41 QC.out).mono ?_); rintro e w1 ⟨rfl, z2⟩) | (go_at_call 17; (with_reducible refine (len_is z2 2 at2 hA41 QA.out).mono ?_); rintro e w1 ⟨rfl, z3⟩) | (go_at_call 21; (with_reducible refine (wbits_eq z3 4 at4 hC41 SC.out).mono ?_); rintro e w1 ⟨rfl, z4⟩) | (go_at_call 21; (with_reducible refine (wbits_eq z4 4 at4 hC41 SC.out).mono ?_); rintro e w1 ⟨rfl, z5⟩) | (go_at_call 21; (with_reducible refine (wbits_eq z5 2 at2 hA41 SA.out).mono ?_); rintro e w1 ⟨rfl, z6⟩) | (go_at_call 19; (with_reducible refine (most_as z6 5 at5 MQ.out).mono ?_); rintro e w1 ⟨rfl, z7⟩) | (go_at_call 19; (with_reducible refine (most_as z7 3 at3 MQ.out).mono ?_); rintro e w1 ⟨rfl, z8⟩))
          go_wp2_with (fail)
          go_roundw
          case rel => exact ⟨N + 1, K1, l1, s1, B1, by go_num, by omega, R1.out, by omega, z8.tail.tail.tail.tail⟩
          case measure => simp [intOf]; omega
        · have t1 : (e0 != 0) = true := by simpa using he
          have tn : ((nX : Int) != 0) = false := by have h1 := QA.out; have h2 := HX0.out he; rw [h2] at h1; simp at h1; simp; omega
          clear HX0
          go_wp2_with (first | (go_at_call 27; (with_reducible refine (lcopy_any g 1 at1).mono ?_); rintro e w1 ⟨d1, rfl, h1⟩; clear g) | (go_at_call 13; (with_reducible refine (write_any h1).mono ?_); rintro e w1 ⟨va, rfl, h2⟩; clear h1) | (go_at_call 13; (with_reducible refine (write_any h2).mono ?_); rintro e w1 ⟨vb, rfl, h3⟩; clear h2))
          have x0 := h3.drew
          clear h3
          have kw0 := kcell x0 hblt KW.out
          go_region_held3 (fun w' => w'.cell? ⟨b, o' + N, none⟩ = some (.int .i64 v)) (first | exact kcell (by assumption) hblt KW.out | go_keep) (first | (go_at_call 15; (with_reducible refine (lput_as x0 2 1 (by decide) at2 at1 hb0 v HV1.out HV2.out A1.out).mono ?_); rintro e w2 ⟨rfl, x1⟩; simp only [set1, set2] at x1) | (go_at_call 27; (with_reducible refine (lcopy_any x1 4 at4).mono ?_); rintro e w1 ⟨d2, rfl, x2⟩) | (go_at_call 15; (with_reducible refine (lput_as x2 0 1 (by decide) at0 at1 hb0 v HV1.out HV2.out A1.out).mono ?_); rintro e w2 ⟨rfl, x3⟩; simp only [set0, set1] at x3))
          have y0 := x3
          clear x0 x1 x2 x3
          have kw1 := kcell y0 hblt KW.out
          go_wp2_with (first | (go_at_call 15; (with_reducible refine (lput_nilw _ _ _).mono ?_); rintro e w2 ⟨rfl, rfl⟩) | (go_at_call 21; (with_reducible refine (wbits_eq y0 2 at2 hA41 SA.out).mono ?_); rintro e w1 ⟨rfl, y1⟩; clear y0) | (go_at_call 21; (with_reducible refine (wbits_eq y1 1 at1 hA41 SA.out).mono ?_); rintro e w1 ⟨rfl, y2⟩; clear y1) | (go_at_call 17; (with_reducible refine (len_is y2 2 at2 hA41 QA.out).mono ?_); rintro e w1 ⟨rfl, y3⟩; clear y2) | (go_at_call 17; (with_reducible refine (len_is y3 4 at4 hB41 QB.out).mono ?_); rintro e w1 ⟨rfl, y4⟩; clear y3))
          have z0 := y4.drew
          clear y4
          have kw2 := kcell z0 hblt KW.out
          go_region_held3 (fun w' => w'.cell? ⟨b, o' + N, none⟩ = some (.int .i64 v)) (first | exact kcell (by assumption) hblt KW.out | go_keep) (first | (go_at_call 15; (with_reducible refine (lput_as z0 5 4 (by decide) at5 at4 hb5 v HV1.out HV2.out A2.out).mono ?_); rintro e w2 ⟨rfl, z1⟩; simp only [set4, set5] at z1) | (go_at_call 17; (with_reducible refine (len_is z1 4 at4 hC41 QC.out).mono ?_); rintro e w1 ⟨rfl, z2⟩) | (go_at_call 17; (with_reducible refine (len_is z2 2 at2 hA41 QA.out).mono ?_); rintro e w1 ⟨rfl, z3⟩) | (go_at_call 21; (with_reducible refine (wbits_eq z3 4 at4 hC41 SC.out).mono ?_); rintro e w1 ⟨rfl, z4⟩) | (go_at_call 21; (with_reducible refine (wbits_eq z4 4 at4 hC41 SC.out).mono ?_); rintro e w1 ⟨rfl, z5⟩) | (go_at_call 21; (with_reducible refine (wbits_eq z5 2 at2 hA41 SA.out).mono ?_); rintro e w1 ⟨rfl, z6⟩) | (go_at_call 19; (with_reducible refine (most_as z6 5 at5 MQ.out).mono ?_); rintro e w1 ⟨rfl, z7⟩) | (go_at_call 19; (with_reducible refine (most_as z7 3 at3 MQ.out).mono ?_); rintro e w1 ⟨rfl, z8⟩))
          go_wp2_with (fail)
          go_roundw
          case rel => exact ⟨N + 1, K1, l1, s1, B1, by go_num, by omega, R1.out, by omega, z8.tail.tail.tail.tail⟩
          case measure => simp [intOf]; omega
      · obtain rfl : N = n := by omega
        go_wp2_with (first | (go_at_call 10; (with_reducible refine (lknown_any g).mono ?_); rintro e w1 ⟨rfl, g2⟩))
        exact bodyPost_ret (results_tmp rfl _ _ _) rfl ⟨rfl, g2.below⟩
  · have hnd : decide ((20 : Int) < (n : Int)) = true := by simp; omega
    go_enter Try.func5, Try.ntmps5
    go_wp2_with (first | (go_at_call 23; (with_reducible refine (pair_any t0 o0 b1 b2 b3 b4 _).mono ?_); rintro e w1 ⟨t, o, p1, p2, p3, p4, rfl, rfl⟩) | (go_at_call 24; (with_reducible refine (made_any hS t o rfl rfl p2 p3 (by omega) ⟨rfl, rfl, rfl⟩).mono ?_); rintro e w1 ⟨cb, rfl, h1⟩; clear hS) | (go_at_call 10; (with_reducible refine (lknown_any h1).mono ?_); rintro e w1 ⟨rfl, g4⟩))
    exact bodyPost_ret (results_tmp rfl _ _ _) rfl ⟨rfl, g4.below⟩

end Go.Proofs.Ytmlkkeabgnhhnaa
