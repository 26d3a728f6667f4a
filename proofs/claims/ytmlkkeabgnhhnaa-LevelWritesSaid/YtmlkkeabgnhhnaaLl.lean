/- The walk of LevelWrites. -/
import Derived.Test.YtmlkkeabgnhhnaaLd
import Derived.Deep.RegionHeld3
namespace Go.Proofs.Ytmlkkeabgnhhnaa
open Go.RowKit
set_option linter.unusedVariables false
set_option maxRecDepth 100000
set_option linter.unusedSimpArgs false

theorem kcell2 {W w : World} {L : List AObj} {F : List (Nat × Obj)} (h : Hp W w L F) {b i : Nat} {v : Value} (hb : b < W.heap.size) (hw : W.cell? ⟨b, i, none⟩ = some v) : w.cell? ⟨b, i, none⟩ = some v := (h.below.cell (p := ⟨b, i, none⟩) hb).trans hw
theorem lpB_len2 {B : List Bool} {K l s : Nat} {v : Int} (hK : K ≤ 6) (hs : s = 0 ∨ s = 2) : (lpB B K l s v).length ≤ B.length + 28 := by
  by_cases h : lpE K l s v = 0
  · exact (put_ok (B := B) hK hs h).2.2.2.2
  · unfold lpB; rw [if_neg h]; omega
theorem lp_bounds2 {K l s : Nat} {v : Int} (hK : K ≤ 6) (hl : l ≤ 16) (hs : s = 0 ∨ s = 2) : lpK K l s v ≤ 6 ∧ lpL K l s v ≤ 16 ∧ (lpS K l s v = 0 ∨ lpS K l s v = 2) := by
  by_cases h : lpE K l s v = 0
  · obtain ⟨h1, h2, h3, _⟩ := put_ok (B := []) hK hs h
    exact ⟨h1, by omega, Or.inl h3⟩
  · unfold lpK lpL lpS; rw [if_neg h, if_neg h, if_neg h]; exact ⟨hK, hl, hs⟩
theorem qlen_is {W w : World} {L : List AObj} {F : List (Nat × Obj)} {b : Nat} (h : Hp W w L F) (k : Nat) {B : List Bool} (hk : L[k]? = some (aQwr b B)) {N : Nat} (hz : N = B.length) :
    Calls Try.prog 18 #[.pointer (some ⟨b, 0, none⟩)] w fun e w' => e = .returned (.int .i64 (N : Int)) ∧ Hp W w' L F := by
  subst hz
  exact (qlen_any h k hk).mono fun _ _ ⟨he, hw⟩ => ⟨he, hw ▸ h⟩
theorem qwbits_eq {W w : World} {L : List AObj} {F : List (Nat × Obj)} {b : Nat} (h : Hp W w L F) (k : Nat) {B : List Bool} (hk : L[k]? = some (aQwr b B)) {S : ByteArray} (hS : strB B = S) :
    Calls Try.prog 22 #[.pointer (some ⟨b, 0, none⟩)] w fun e w' => e = .returned (.string S) ∧ Hp W w' L F := by
  subst hS
  exact (qbits_any h k hk).mono fun _ _ ⟨he, hw⟩ => ⟨he, hw ▸ h⟩
theorem s0_or (o : Nat) : s0 o = 0 ∨ s0 o = 2 := by unfold s0; split <;> omega

set_option maxHeartbeats 4000000 in
theorem lwrites_walk {W : World} {sp : Option Addr} {n cap b o' : Nat} {C : Nat → List Value} (t0 o0 : Int) (b1 : -9223372036854775808 ≤ t0) (b2 : t0 < 9223372036854775808) (b3 : -9223372036854775808 ≤ o0) (b4 : o0 < 9223372036854775808) (hin : RowsIn Try.prog W [.int .i64] sp n b o' C) (hn63 : n ≤ 9223372036854775807) :
    Calls Try.prog 3 #[.int .i64 t0, .int .i64 o0, .slice sp n cap] W fun e w' => e = .returned (.bool true) ∧ Below W.heap.size W w' := by
  have hS := Hp.start W
  have HIN := Lib.hid hin
  clear hin
  by_cases hn : n ≤ 30
  · have hnd : decide ((30 : Int) < (n : Int)) = false := by simp; omega
    by_cases hok : okP t0 o0
    · obtain ⟨t, rfl⟩ : ∃ t : Nat, t0 = (t : Int) := ⟨t0.toNat, by unfold okP at hok; omega⟩
      obtain ⟨o, rfl⟩ : ∃ o : Nat, o0 = (o : Int) := ⟨o0.toNat, by unfold okP at hok; omega⟩
      have p1 : t ≤ 16 := by unfold okP at hok; omega
      have p2 : o ≤ 3 := by unfold okP at hok; omega
      have p3 : o ≤ t := by unfold okP at hok; omega
      clear hok b1 b2 b3 b4
      go_enter Try.func3, Try.ntmps3
      go_wp2_with (first | (go_at_call 11; (with_reducible refine (new_ok hS t o p1 p2 p3).mono ?_); rintro e w1 ⟨cb, rfl, h1⟩; clear hS) | (go_at_call 12; (with_reducible refine (qnew_ok h1 t o p1 p2 p3).mono ?_); rintro e w1 ⟨db, rfl, h2⟩; clear h1) | (go_at_call 13; (with_reducible refine (write_any h2).mono ?_); rintro e w1 ⟨wb, rfl, h3⟩; clear h2) | (go_at_call 14; (with_reducible refine (qwrite_any h3).mono ?_); rintro e w1 ⟨qb, rfl, h4⟩; clear h3))
      have HS := Lib.hid h4
      clear h4
      go_loopw [13] (fun i' wr => ∃ (N K l s : Nat) (B : List Bool), i' = .int .i64 N ∧ N ≤ n ∧ (K ≤ 6 ∧ l ≤ 16 ∧ (s = 0 ∨ s = 2)) ∧ B.length ≤ 28 * N ∧ Hp W wr [aQwr qb B, aWr wb B, aQco db K l s, aCo cb K l s] []) (fun i' _ => n - (intOf i').toNat)
      case atStart => exact ⟨0, _, _, _, [], rfl, Nat.zero_le _, ⟨k0_le t o, by omega, s0_or o⟩, by simp, HS.out⟩
      case round =>
        obtain ⟨N, K, l, s, B, rfl, hN, hKs, hB, g⟩ := hrel
        by_cases hlt : N < n
        · obtain ⟨rfl, hblt⟩ := HIN.out.at_ (by omega)
          obtain ⟨k0', k1⟩ := HIN.out.int hlt 0 (k := .i64) rfl
          simp only [List.length_singleton, Nat.mul_one, Nat.add_zero] at k0'
          obtain ⟨q1, q2⟩ := bounds_i64 k1
          clear k1
          generalize zat C N 0 = v at *
          have KW := Lib.hid k0'
          clear k0'
          have HV1 := Lib.hid q1
          have HV2 := Lib.hid (show v < 9223372036854775808 by omega)
          clear q1 q2
          obtain ⟨hK, hl, hs⟩ := hKs
          have hb5 : K ≤ 6 ∧ l ≤ 16 ∧ (s = 0 ∨ s = 2) ∧ B.length ≤ 2 ^ 39 := ⟨hK, hl, hs, by omega⟩
          have hbd := lp_bounds2 (v := v) hK hl hs
          have hlen := lpB_len2 (B := B) (l := l) (v := v) hK hs
          obtain ⟨e0, he0⟩ : ∃ e, lpE K l s v = e := ⟨_, rfl⟩
          obtain ⟨B1, hB1⟩ : ∃ x, lpB B K l s v = x := ⟨_, rfl⟩
          obtain ⟨K1, hK1⟩ : ∃ x, lpK K l s v = x := ⟨_, rfl⟩
          obtain ⟨l1, hl1⟩ : ∃ x, lpL K l s v = x := ⟨_, rfl⟩
          obtain ⟨s1, hs1⟩ : ∃ x, lpS K l s v = x := ⟨_, rfl⟩
          rw [hK1, hl1, hs1] at hbd
          rw [hB1] at hlen
          have A := Lib.hid (And.intro he0 (And.intro hB1 (And.intro hK1 (And.intro hl1 hs1))))
          have R1 := Lib.hid hbd
          have R2 : Hid (K1 ≤ 6 ∧ l1 ≤ 16 ∧ s1 ≤ 2) := Lib.hid ⟨hbd.1, hbd.2.1, by omega⟩
          have H5 := Lib.hid hb5
          obtain ⟨Q, hQ⟩ : ∃ q, lmost K1 l1 s1 = q := ⟨_, rfl⟩
          obtain ⟨nC, hnC⟩ : ∃ q, q = B1.length := ⟨_, rfl⟩
          have hC41 : Hid (B1.length ≤ 2 ^ 41) := Lib.hid (by omega)
          have hBn : Hid (B1.length ≤ 28 * (N + 1)) := Lib.hid (by omega)
          have MQ := Lib.hid hQ
          have QC := Lib.hid hnC
          clear hB1 hK1 hl1 hs1 he0 hbd hQ hnC hlen hb5 hK hl hs hB
          go_wp2_with (fail)
          have x0 := g.drew
          clear g
          have kw0 := kcell2 x0 hblt KW.out
          go_region_held3 (fun w' => w'.cell? ⟨b, o' + N, none⟩ = some (.int .i64 v)) (first | exact kcell2 (by assumption) hblt KW.out | go_keep) (first | (go_at_call 15; (with_reducible refine (lput_as x0 3 1 (by decide) at3 at1 H5.out v HV1.out HV2.out A.out).mono ?_); rintro e w2 ⟨rfl, x1⟩; simp only [set1, set3] at x1) | (go_at_call 16; (with_reducible refine (qlput_as x1 2 0 (by decide) at2 at0 H5.out v HV1.out HV2.out A.out).mono ?_); rintro e w2 ⟨rfl, x2⟩; simp only [set0, set2] at x2) | (go_at_call 17; (with_reducible refine (len_is x2 1 at1 hC41.out QC.out).mono ?_); rintro e w1 ⟨rfl, x3⟩) | (go_at_call 18; (with_reducible refine (qlen_is x3 0 at0 QC.out).mono ?_); rintro e w1 ⟨rfl, x4⟩) | (go_at_call 19; (with_reducible refine (most_as2 x4 3 at3 R2.out MQ.out).mono ?_); rintro e w1 ⟨rfl, x5⟩) | (go_at_call 20; (with_reducible refine (qmost_as x5 2 at2 R2.out MQ.out).mono ?_); rintro e w1 ⟨rfl, x6⟩))
          go_wp2_with (fail)
          go_roundw
          case rel => exact ⟨N + 1, K1, l1, s1, B1, by go_num, by omega, R1.out, hBn.out, x6⟩
          case measure => simp [intOf]; omega
        · obtain rfl : N = n := by omega
          obtain ⟨S, hS⟩ : ∃ S, strB B = S := ⟨_, rfl⟩
          have HSS := Lib.hid hS
          have hB41 : B.length ≤ 2 ^ 41 := by omega
          have HB41 := Lib.hid hB41
          clear hS hB41 hB
          go_wp2_with (first | (go_at_call 21; (with_reducible refine (wbits_eq g 1 at1 HB41.out HSS.out).mono ?_); rintro e w1 ⟨rfl, g1⟩; clear g) | (go_at_call 22; (with_reducible refine (qwbits_eq g1 0 at0 HSS.out).mono ?_); rintro e w1 ⟨rfl, g2⟩; clear g1) | (go_at_call 10; (with_reducible refine (lknown_any g2).mono ?_); rintro e w1 ⟨rfl, g3⟩))
          exact bodyPost_ret (results_tmp rfl _ _ _) rfl ⟨rfl, g3.below⟩
    · have HO := Lib.hid hok
      clear hok
      obtain ⟨S, hSB⟩ : ∃ S, strB [] = S := ⟨_, rfl⟩
      have HSS := Lib.hid hSB
      clear hSB
      go_enter Try.func3, Try.ntmps3
      go_wp2_with (first | (go_at_call 11; (with_reducible refine (new_bad t0 o0 (not_okP HO.out) _).mono ?_); rintro e w1 ⟨rfl, rfl⟩) | (go_at_call 12; (with_reducible refine (qnew_bad hS t0 o0 HO.out).mono ?_); rintro e w1 ⟨rfl, h2⟩; clear hS) | (go_at_call 13; (with_reducible refine (write_any h2).mono ?_); rintro e w1 ⟨wb, rfl, h3⟩; clear h2) | (go_at_call 14; (with_reducible refine (qwrite_any h3).mono ?_); rintro e w1 ⟨qb, rfl, h4⟩; clear h3))
      have HS := Lib.hid h4
      clear h4
      go_loopw [13] (fun i' wr => i' = .int .i64 0 ∧ Hp W wr [aQwr qb [], aWr wb []] []) (fun i' _ => 0)
      case atStart => exact ⟨rfl, HS.out⟩
      case round =>
        obtain ⟨rfl, g⟩ := hrel
        go_wp2_with (first | (go_at_call 21; (with_reducible refine (wbits_eq g 1 at1 (by decide) HSS.out).mono ?_); rintro e w1 ⟨rfl, g1⟩; clear g) | (go_at_call 22; (with_reducible refine (qwbits_eq g1 0 at0 HSS.out).mono ?_); rintro e w1 ⟨rfl, g2⟩; clear g1) | (go_at_call 10; (with_reducible refine (lknown_any g2).mono ?_); rintro e w1 ⟨rfl, g3⟩))
        exact bodyPost_ret (results_tmp rfl _ _ _) rfl ⟨rfl, g3.below⟩
  · have hnd : decide ((30 : Int) < (n : Int)) = true := by simp; omega
    go_enter Try.func3, Try.ntmps3
    go_wp2_with (first | (go_at_call 10; (with_reducible refine (lknown_any hS).mono ?_); rintro e w1 ⟨rfl, g4⟩))
    exact bodyPost_ret (results_tmp rfl _ _ _) rfl ⟨rfl, g4.below⟩

end Go.Proofs.Ytmlkkeabgnhhnaa
