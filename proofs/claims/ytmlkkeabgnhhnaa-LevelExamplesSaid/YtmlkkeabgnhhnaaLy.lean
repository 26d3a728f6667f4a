/- The walk of LevelBounds. -/
import Derived.Test.YtmlkkeabgnhhnaaLw
namespace Go.Proofs.Ytmlkkeabgnhhnaa
open Go.RowKit
set_option linter.unusedVariables false
set_option maxRecDepth 100000
set_option linter.unusedSimpArgs false

theorem most_as {W w : World} {L : List AObj} {F : List (Nat × Obj)} {b K l sk : Nat} (h : Hp W w L F) (k : Nat) (hk : L[k]? = some (aCo b K l sk)) {q : Nat} (hx : K ≤ 6 ∧ sk ≤ 2 ∧ lmost K l sk = q) :
    Calls Try.prog 19 #[.pointer (some ⟨b, 0, none⟩)] w fun e w' => e = .returned (.int .i64 q) ∧ Hp W w' L F := by
  obtain ⟨h1, h2, rfl⟩ := hx
  exact most_any h k hk h1 h2
theorem nxt_ge (K m : Nat) : K ≤ nxt K m := by unfold nxt; split <;> omega
theorem esc_mono {a b : Nat} (ha : a ≤ b) (hb : b ≤ 6) : esc a ≤ esc b := by
  have : ∀ a, a ≤ 6 → ∀ b, b ≤ 6 → a ≤ b → esc a ≤ esc b := by
    intro a ha
    refine seven (P := fun a => ∀ b, b ≤ 6 → a ≤ b → esc a ≤ esc b) ?_ ?_ ?_ ?_ ?_ ?_ ?_ ha
    all_goals
      intro b hb
      refine seven (P := fun b => _ ≤ b → esc _ ≤ esc b) ?_ ?_ ?_ ?_ ?_ ?_ ?_ hb <;> decide
  exact this a (by omega) b hb ha
theorem step_ok2 {K l s : Nat} {B : List Bool} {x : Int} {first : Bool} (hK : K ≤ 6) (hl : l ≠ 0) (hs : (s = 0 ∨ s = 2) ∧ (0 < s → first = true)) (x1 : 1 ≤ x.natAbs) (x2 : x.natAbs ≤ lmost K l s) (x3 : first = true → 2 ≤ x.natAbs) :
    ∃ K' l' s' B', StepOk K l s B x K' l' s' B' ∧ K' ≤ 6 ∧ l' = l - 1 ∧ s' = 0 ∧ B'.length ≤ B.length + 28 ∧ (s = 0 → l' ≠ 0 → lmost K l s ≤ lmost K' l' s') := by
  obtain ⟨K', l', s', B', h, h1, h2, h3, h4⟩ := step_ok (B := B) hK hl hs x1 x2 x3
  refine ⟨K', l', s', B', h, h1, h2, h3, h4, fun h0 hl' => ?_⟩
  have hk : K' = nxt K x.natAbs := by
    obtain ⟨e1, e2, e3, e4, e5⟩ := h.put
    rw [← e3]; unfold lpK; rw [if_pos e1]
  have hm := esc_mono (nxt_ge K x.natAbs) (hk ▸ h1)
  rw [hk, h3, h0]
  unfold lmost mst
  rw [if_neg hl, if_neg hl']
  omega
/-- Both signs alike. -/
theorem lpE_sign {K l s M : Nat} (hK : K ≤ 6) (hl : l ≠ 0) (hs : s = 0 ∨ s = 2) (hM : 1 ≤ M) : ∃ e : Int, lpE K l s (M : Int) = e ∧ lpE K l s (-(M : Int)) = e ∧ (M = 1 ∧ s = 2 → e = 2) ∧ (¬ (M = 1 ∧ s = 2) → e = if M ≤ lmost K l s then 0 else 12) := by
  have he := esc_even hK
  have hm : mst K % 2 = 1 := by unfold mst; omega
  by_cases c : M = 1 ∧ s = 2
  · refine ⟨2, ?_, ?_, fun _ => rfl, fun h => absurd c h⟩ <;>
    · unfold lpE; rw [if_neg hl, if_pos (Or.inr ⟨by omega, by omega⟩)]
  · refine ⟨if M ≤ lmost K l s then 0 else 12, ?_, ?_, fun h => absurd h c, fun _ => rfl⟩ <;>
    · unfold lpE lmost lnum
      rw [if_neg hl, if_neg hl, if_neg (by omega)]
      (repeat' split) <;> omega

set_option maxHeartbeats 4000000 in
theorem lbnd_walk {W : World} {sp : Option Addr} {n cap b o' : Nat} {C : Nat → List Value} (t0 o0 v0 : Int) (b1 : -9223372036854775808 ≤ t0) (b2 : t0 < 9223372036854775808) (b3 : -9223372036854775808 ≤ o0) (b4 : o0 < 9223372036854775808) (b5 : -9223372036854775808 ≤ v0) (b6 : v0 < 9223372036854775808) (hin : RowsIn Try.prog W [.int .i64] sp n b o' C) (hn63 : n ≤ 9223372036854775807) :
    Calls Try.prog 4 #[.int .i64 t0, .int .i64 o0, .slice sp n cap, .int .i64 v0] W fun e w' => e = .returned (.bool true) ∧ Below W.heap.size W w' := by
  have hS := Hp.start W
  have HIN := Lib.hid hin
  clear hin
  by_cases hn : n ≤ 20
  · have hnd : decide ((20 : Int) < (n : Int)) = false := by simp; omega
    go_enter Try.func4, Try.ntmps4
    go_wp2_with (first | (go_at_call 23; (with_reducible refine (pair_any t0 o0 b1 b2 b3 b4 _).mono ?_); rintro e w1 ⟨t, o, p1, p2, p3, p4, rfl, rfl⟩) | (go_at_call 24; (with_reducible refine (made_any hS t o rfl rfl p2 p3 (by omega) ⟨rfl, rfl, rfl⟩).mono ?_); rintro e w1 ⟨cb, rfl, h1⟩; clear hS) | (go_at_call 13; (with_reducible refine (write_any h1).mono ?_); rintro e w1 ⟨wb, rfl, h2⟩; clear h1))
    have HS := Lib.hid h2
    clear h2
    go_loopg [13, 14] 17 (fun g f' i' wr => ∃ (N : Nat) (fst : Bool) (K l s : Nat) (B : List Bool), g = 17 - N ∧ f' = .bool fst ∧ i' = .int .i64 N ∧ N ≤ t - o - 1 ∧ l = t - o - N ∧ (fst = true → N = 0) ∧ K ≤ 6 ∧ ((fst = true → s = s0 o) ∧ (fst = false → s = 0)) ∧ B.length ≤ 28 * N ∧ (s = 2 → K ≤ 1) ∧
      Hp W wr [aWr wb B, aCo cb K l s] [])
    case atStart => exact ⟨0, true, _, _, _, [], rfl, rfl, rfl, by omega, rfl, fun _ => rfl, by unfold k0; split <;> omega, ⟨fun _ => rfl, fun h => by cases h⟩, by simp, fun _ => by unfold k0; split <;> omega, HS.out⟩
    case round =>
      obtain ⟨N, fst, K, l, s, B, rfl, rfl, rfl, g1, hl, hf0, hK, hsf, hB, hsK, g⟩ := hrel
      have hl0 : l ≠ 0 := by omega
      have hs02 : s = 0 ∨ s = 2 := by cases fst with | false => exact Or.inl (hsf.2 rfl) | true => rw [hsf.1 rfl]; unfold s0; split <;> omega
      have hs2 : s ≤ 2 := by omega
      obtain ⟨Q, hQ⟩ : ∃ q, lmost K l s = q := ⟨_, rfl⟩
      have MQ := Lib.hid hQ
      have HL := Lib.hid hl
      have HS02 := Lib.hid hs02
      by_cases hlt : N < n ∧ N < t - o - 1
      · obtain ⟨hNn, hNt⟩ := hlt
        have hb3 : K ≤ 6 ∧ l ≤ 16 ∧ (s = 0 ∨ s = 2) ∧ B.length ≤ 2 ^ 39 := ⟨hK, by omega, hs02, by omega⟩
        have hlt1 : (N : Int) < (n : Int) := by omega
        have hlt2 : (N : Int) < (t : Int) - (o : Int) - 1 := by omega
        obtain ⟨rfl, hblt⟩ := HIN.out.at_ (by omega)
        obtain ⟨k0', k1⟩ := HIN.out.int hNn 0 (k := .i64) rfl
        simp only [List.length_singleton, Nat.mul_one, Nat.add_zero] at k0'
        obtain ⟨q1, q2⟩ := bounds_i64 k1
        clear k1
        generalize zat C N 0 = v at *
        have KW := Lib.hid k0'
        clear k0'
        have HV1 := Lib.hid q1
        have HV2 := Lib.hid (show v < 9223372036854775808 by omega)
        cases fst
        · have S0 := Lib.hid (hsf.2 rfl)
          clear hQ hl hs02 hsf hf0 hsK q1 q2
          go_wp2_with (first | (go_at_call 19; (with_reducible refine (most_as g 1 at1 ⟨hK, hs2, MQ.out⟩).mono ?_); rintro e w1 ⟨rfl, g1⟩; clear g; have kw := (g1.below.cell (p := ⟨b, o' + N, none⟩) hblt).trans KW.out) | (go_at_call 25; (with_reducible refine (fit_any g1 1 at1 hK hs2 hl0 v HV1.out HV2.out false).mono ?_); rintro e w1 ⟨x, rfl, x1, x2, x3, g2⟩; clear g1; obtain ⟨K', l', s', B', hx, y1, y2, y3, y4, y5⟩ := step_ok2 hK hl0 (first := false) ⟨Or.inl S0.out, fun h => by have := S0.out; omega⟩ x1 x2 x3; have Y2 := Lib.hid y2; have Y3 := Lib.hid y3; have Y5 := Lib.hid y5; clear y2 y3 y5) | (go_at_call 15; (with_reducible refine (lput_as g2 1 0 (by decide) at1 at0 hb3 x hx.xlo hx.xhi hx.put).mono ?_); rintro e w2 ⟨rfl, g3⟩; simp only [set0, set1] at g3; clear g2) | (go_at_call 19; (with_reducible refine (most_as g3 1 at1 ⟨y1, by have := Y3.out; omega, rfl⟩).mono ?_); rintro e w1 ⟨rfl, g4⟩; clear g3; have hd : decide (lmost K' l' s' < Q) = false := by (have h5 := Y5.out S0.out (by have h6 := Y2.out; have h7 := HL.out; omega); rw [MQ.out] at h5; simp; omega)))
          all_goals
            go_roundg (17 - (N + 1))
            case rel => exact ⟨N + 1, false, K', l', s', B', rfl, rfl, by go_num, by omega, by have := Y2.out; have := HL.out; omega, (fun h => by cases h), y1, ⟨fun h => (by cases h), fun _ => Y3.out⟩, by omega, (fun h => by have := Y3.out; omega), g4⟩
            case measure => omega
        · clear hQ hl hs02 hsf hf0 hsK q1 q2
          go_wp2_with (first | (go_at_call 19; (with_reducible refine (most_as g 1 at1 ⟨hK, hs2, MQ.out⟩).mono ?_); rintro e w1 ⟨rfl, g1⟩; clear g; have kw := (g1.below.cell (p := ⟨b, o' + N, none⟩) hblt).trans KW.out) | (go_at_call 25; (with_reducible refine (fit_any g1 1 at1 hK hs2 hl0 v HV1.out HV2.out true).mono ?_); rintro e w1 ⟨x, rfl, x1, x2, x3, g2⟩; clear g1; obtain ⟨K', l', s', B', hx, y1, y2, y3, y4, y5⟩ := step_ok2 hK hl0 (first := true) ⟨HS02.out, fun _ => rfl⟩ x1 x2 x3; have Y2 := Lib.hid y2; have Y3 := Lib.hid y3; have Y5 := Lib.hid y5; clear y2 y3 y5) | (go_at_call 15; (with_reducible refine (lput_as g2 1 0 (by decide) at1 at0 hb3 x hx.xlo hx.xhi hx.put).mono ?_); rintro e w2 ⟨rfl, g3⟩; simp only [set0, set1] at g3; clear g2) | (go_at_call 19; (with_reducible refine (most_as g3 1 at1 ⟨y1, by have := Y3.out; omega, rfl⟩).mono ?_); rintro e w1 ⟨rfl, g4⟩; clear g3; have hd := Lib.hid (True.intro)))
          all_goals
            go_roundg (17 - (N + 1))
            case rel => exact ⟨N + 1, false, K', l', s', B', rfl, rfl, by go_num, by omega, by have := Y2.out; have := HL.out; omega, (fun h => by cases h), y1, ⟨fun h => (by cases h), fun _ => Y3.out⟩, by omega, (fun h => by have := Y3.out; omega), g4⟩
            case measure => omega
      · have hQlo : 2063 ≤ Q := hQ ▸ lmost_big hK hl0
        have hQhi : Q ≤ 2528 := by
          have he := (esc_le K hK).2
          have h1 : s = 2 → esc K = 30 := fun h => by have := hsK h; have : K = 0 ∨ K = 1 := by omega
                                                      rcases this with rfl | rfl <;> rfl
          rw [← hQ]; unfold lmost mst; rw [if_neg hl0]
          rcases hs02 with h | h
          · omega
          · have := h1 h; omega
        obtain ⟨r, hr⟩ : ∃ r : Nat, v0 % 3000 = (r : Int) := ⟨(v0 % 3000).toNat, by omega⟩
        have hr3 : r ≤ 2999 := by omega
        have MR := Lib.hid hr
        obtain ⟨M, hM⟩ : ∃ M, M = r + 1 := ⟨_, rfl⟩
        have hM1 : 1 ≤ M := by omega
        have hM3 : M ≤ 3000 := by omega
        have d1 : decide (Q < 2063) = false := by simp; omega
        have d2 : decide (2528 < Q) = false := by simp; omega
        obtain ⟨e0, l1, l2, l3, l4⟩ := lpE_sign hK hl0 hs02 hM1
        rw [hQ] at l4
        have SFX := Lib.hid hsf
        have HLT := Lib.hid hlt
        clear hQ hl hr hsf
        have hb0 : K ≤ 6 ∧ l ≤ 16 ∧ (s = 0 ∨ s = 2) ∧ ([] : List Bool).length ≤ 2 ^ 39 := ⟨hK, by have := HL.out; omega, hs02, by decide⟩
        have L34 := Lib.hid (And.intro l3 l4)
        have L12 := Lib.hid (And.intro l1 l2)
        have HF := Lib.hid hf0
        have HSK := Lib.hid hsK
        clear l1 l2 l3 l4 hs02 hf0 hsK hlt
        have VARS1 : ∃ B1 K1 l1 s1, lpE K l s (M : Int) = e0 ∧ lpB [] K l s (M : Int) = B1 ∧ lpK K l s (M : Int) = K1 ∧ lpL K l s (M : Int) = l1 ∧ lpS K l s (M : Int) = s1 := ⟨_, _, _, _, L12.out.1, rfl, rfl, rfl, rfl⟩
        have VARS2 : ∃ B1 K1 l1 s1, lpE K l s (-(M : Int)) = e0 ∧ lpB [] K l s (-(M : Int)) = B1 ∧ lpK K l s (-(M : Int)) = K1 ∧ lpL K l s (-(M : Int)) = l1 ∧ lpS K l s (-(M : Int)) = s1 := ⟨_, _, _, _, L12.out.2, rfl, rfl, rfl, rfl⟩
        obtain ⟨B1, K1, l1, s1, h1⟩ := VARS1
        obtain ⟨B2, K2, l2, s2, h2⟩ := VARS2
        have AP := Lib.hid h1
        have AN := Lib.hid h2
        have HM := Lib.hid hM
        clear h1 h2 hM
        have hN1 : N < n ∨ n ≤ N := by omega
        rcases hN1 with hN1 | hN1
        · have hN2 : ¬ ((N : Int) < (t : Int) - (o : Int) - 1) := by have := HLT.out; omega
          have hN3 : (N : Int) < (n : Int) := by omega
          clear HLT
          go_wp2_with (first | (go_at_call 19; (with_reducible refine (most_as g 1 at1 ⟨hK, hs2, MQ.out⟩).mono ?_); rintro e w1 ⟨rfl, g1⟩; clear g) | (go_at_call 26; (with_reducible refine (mod_as v0 3000 rfl (by decide) (by decide) b5 b6 MR.out _).mono ?_); rintro e w1 ⟨rfl, rfl⟩))
          have HG := Lib.hid g1
          clear g1
          go_loopw [17, 18] (fun z' c' wr => ∃ (c : Nat) (z : Int), z' = .int .i64 z ∧ c' = .int .i64 c ∧ (z = (M : Int) ∨ z = -(M : Int)) ∧ c ≤ 2 ∧ Hp W wr [aWr wb B, aCo cb K l s] []) (fun _ c' _ => 2 - (intOf c').toNat)
          case atStart => exact ⟨0, (M : Int), by (have := HM.out; subst this; go_num), rfl, Or.inl rfl, by omega, HG.out⟩
          case round =>
            obtain ⟨c, z, rfl, rfl, hz, hc, g⟩ := hrel
            by_cases hc2 : c < 2
            · have HC2 := Lib.hid hc2
              have hc3 : (c : Int) < 2 := by omega
              have t2 : (-(M : Int) == 1) = false := by simp; omega
              have t3 : ((M : Int) == -1) = false := by simp <;> omega
              have hmx : ¬ ((M : Int) < -(M : Int)) := by omega
              have hmy : -(M : Int) < (M : Int) := by omega
              clear hc2
              by_cases hM1' : M = 1
              · have t1 : ((M : Int) == 1) = true := by simp; omega
                have t4 : (-(M : Int) == -1) = true := by simp; omega
                have dq : decide (M ≤ Q) = true := by simp; omega
                cases fst
                · obtain rfl : e0 = 0 := by rw [L34.out.2 (fun h => by have := SFX.out.2 rfl; omega), if_pos (by omega)]
                  clear hM1'
                  rcases hz with rfl | rfl
                  · go_wp2_with (first | (go_at_call 27; (with_reducible refine (lcopy_any g 1 at1).mono ?_); rintro e w1 ⟨d1, rfl, h1⟩; clear g) | (go_at_call 13; (with_reducible refine (write_any h1).mono ?_); rintro e w1 ⟨v1, rfl, h2⟩; clear h1) | (go_at_call 15; (with_reducible refine (lput_as h2 1 0 (by decide) at1 at0 hb0 _ (by omega) (by omega) AN.out).mono ?_); rintro e w2 ⟨rfl, h3⟩; simp only [set0, set1] at h3; clear h2) | (go_at_call 27; (with_reducible refine (lcopy_any h3 3 at3).mono ?_); rintro e w1 ⟨d2, rfl, h4⟩; clear h3) | (go_at_call 13; (with_reducible refine (write_any h4).mono ?_); rintro e w1 ⟨v2, rfl, h5⟩; clear h4) | (go_at_call 15; (with_reducible refine (lput_as h5 1 0 (by decide) at1 at0 hb0 _ (by omega) (by omega) AP.out).mono ?_); rintro e w2 ⟨rfl, h6⟩; simp only [set0, set1] at h6; clear h5))
                    all_goals first
                      | exact ⟨⟨c + 1, _, rfl, by go_num, Or.inr rfl, by have := HC2.out; omega, h6.tail.tail.tail.tail⟩, by have := HC2.out; simp [intOf]; omega⟩
                      | (go_roundw
                         case rel => exact ⟨c + 1, _, rfl, by go_num, Or.inr rfl, by have := HC2.out; omega, h6.tail.tail.tail.tail⟩
                         case measure => have := HC2.out; simp [intOf]; omega)
                  · go_wp2_with (first | (go_at_call 27; (with_reducible refine (lcopy_any g 1 at1).mono ?_); rintro e w1 ⟨d1, rfl, h1⟩; clear g) | (go_at_call 13; (with_reducible refine (write_any h1).mono ?_); rintro e w1 ⟨v1, rfl, h2⟩; clear h1) | (go_at_call 15; (with_reducible refine (lput_as h2 1 0 (by decide) at1 at0 hb0 _ (by omega) (by omega) AP.out).mono ?_); rintro e w2 ⟨rfl, h3⟩; simp only [set0, set1] at h3; clear h2) | (go_at_call 27; (with_reducible refine (lcopy_any h3 3 at3).mono ?_); rintro e w1 ⟨d2, rfl, h4⟩; clear h3) | (go_at_call 13; (with_reducible refine (write_any h4).mono ?_); rintro e w1 ⟨v2, rfl, h5⟩; clear h4) | (go_at_call 15; (with_reducible refine (lput_as h5 1 0 (by decide) at1 at0 hb0 _ (by omega) (by omega) AN.out).mono ?_); rintro e w2 ⟨rfl, h6⟩; simp only [set0, set1] at h6; clear h5))
                    all_goals first
                      | exact ⟨⟨c + 1, _, rfl, by go_num, Or.inl rfl, by have := HC2.out; omega, h6.tail.tail.tail.tail⟩, by have := HC2.out; simp [intOf]; omega⟩
                      | (go_roundw
                         case rel => exact ⟨c + 1, _, rfl, by go_num, Or.inl rfl, by have := HC2.out; omega, h6.tail.tail.tail.tail⟩
                         case measure => have := HC2.out; simp [intOf]; omega)
                · by_cases ho : o < 3
                  · obtain rfl : e0 = 2 := L34.out.1 ⟨hM1', by rw [SFX.out.1 rfl]; unfold s0; rw [if_pos ho]⟩
                    have to : decide (o < 3) = true := by simpa using ho
                    have to2 : decide (3 ≤ o) = false := by simp; omega
                    clear hM1'
                    rcases hz with rfl | rfl
                    · go_wp2_with (first | (go_at_call 27; (with_reducible refine (lcopy_any g 1 at1).mono ?_); rintro e w1 ⟨d1, rfl, h1⟩; clear g) | (go_at_call 13; (with_reducible refine (write_any h1).mono ?_); rintro e w1 ⟨v1, rfl, h2⟩; clear h1) | (go_at_call 15; (with_reducible refine (lput_as h2 1 0 (by decide) at1 at0 hb0 _ (by omega) (by omega) AN.out).mono ?_); rintro e w2 ⟨rfl, h3⟩; simp only [set0, set1] at h3; clear h2) | (go_at_call 27; (with_reducible refine (lcopy_any h3 3 at3).mono ?_); rintro e w1 ⟨d2, rfl, h4⟩; clear h3) | (go_at_call 13; (with_reducible refine (write_any h4).mono ?_); rintro e w1 ⟨v2, rfl, h5⟩; clear h4) | (go_at_call 15; (with_reducible refine (lput_as h5 1 0 (by decide) at1 at0 hb0 _ (by omega) (by omega) AP.out).mono ?_); rintro e w2 ⟨rfl, h6⟩; simp only [set0, set1] at h6; clear h5))
                      all_goals first
                        | exact ⟨⟨c + 1, _, rfl, by go_num, Or.inr rfl, by have := HC2.out; omega, h6.tail.tail.tail.tail⟩, by have := HC2.out; simp [intOf]; omega⟩
                        | (go_roundw
                           case rel => exact ⟨c + 1, _, rfl, by go_num, Or.inr rfl, by have := HC2.out; omega, h6.tail.tail.tail.tail⟩
                           case measure => have := HC2.out; simp [intOf]; omega)
                    · go_wp2_with (first | (go_at_call 27; (with_reducible refine (lcopy_any g 1 at1).mono ?_); rintro e w1 ⟨d1, rfl, h1⟩; clear g) | (go_at_call 13; (with_reducible refine (write_any h1).mono ?_); rintro e w1 ⟨v1, rfl, h2⟩; clear h1) | (go_at_call 15; (with_reducible refine (lput_as h2 1 0 (by decide) at1 at0 hb0 _ (by omega) (by omega) AP.out).mono ?_); rintro e w2 ⟨rfl, h3⟩; simp only [set0, set1] at h3; clear h2) | (go_at_call 27; (with_reducible refine (lcopy_any h3 3 at3).mono ?_); rintro e w1 ⟨d2, rfl, h4⟩; clear h3) | (go_at_call 13; (with_reducible refine (write_any h4).mono ?_); rintro e w1 ⟨v2, rfl, h5⟩; clear h4) | (go_at_call 15; (with_reducible refine (lput_as h5 1 0 (by decide) at1 at0 hb0 _ (by omega) (by omega) AN.out).mono ?_); rintro e w2 ⟨rfl, h6⟩; simp only [set0, set1] at h6; clear h5))
                      all_goals first
                        | exact ⟨⟨c + 1, _, rfl, by go_num, Or.inl rfl, by have := HC2.out; omega, h6.tail.tail.tail.tail⟩, by have := HC2.out; simp [intOf]; omega⟩
                        | (go_roundw
                           case rel => exact ⟨c + 1, _, rfl, by go_num, Or.inl rfl, by have := HC2.out; omega, h6.tail.tail.tail.tail⟩
                           case measure => have := HC2.out; simp [intOf]; omega)
                  · obtain rfl : e0 = 0 := by rw [L34.out.2 (fun h => by have := SFX.out.1 rfl; rw [h.2] at this; unfold s0 at this; rw [if_neg ho] at this; omega), if_pos (by omega)]
                    have ho3 : 3 ≤ o := by omega
                    clear hM1' ho
                    rcases hz with rfl | rfl
                    · go_wp2_with (first | (go_at_call 27; (with_reducible refine (lcopy_any g 1 at1).mono ?_); rintro e w1 ⟨d1, rfl, h1⟩; clear g) | (go_at_call 13; (with_reducible refine (write_any h1).mono ?_); rintro e w1 ⟨v1, rfl, h2⟩; clear h1) | (go_at_call 15; (with_reducible refine (lput_as h2 1 0 (by decide) at1 at0 hb0 _ (by omega) (by omega) AN.out).mono ?_); rintro e w2 ⟨rfl, h3⟩; simp only [set0, set1] at h3; clear h2) | (go_at_call 27; (with_reducible refine (lcopy_any h3 3 at3).mono ?_); rintro e w1 ⟨d2, rfl, h4⟩; clear h3) | (go_at_call 13; (with_reducible refine (write_any h4).mono ?_); rintro e w1 ⟨v2, rfl, h5⟩; clear h4) | (go_at_call 15; (with_reducible refine (lput_as h5 1 0 (by decide) at1 at0 hb0 _ (by omega) (by omega) AP.out).mono ?_); rintro e w2 ⟨rfl, h6⟩; simp only [set0, set1] at h6; clear h5))
                      all_goals first
                        | exact ⟨⟨c + 1, _, rfl, by go_num, Or.inr rfl, by have := HC2.out; omega, h6.tail.tail.tail.tail⟩, by have := HC2.out; simp [intOf]; omega⟩
                        | (go_roundw
                           case rel => exact ⟨c + 1, _, rfl, by go_num, Or.inr rfl, by have := HC2.out; omega, h6.tail.tail.tail.tail⟩
                           case measure => have := HC2.out; simp [intOf]; omega)
                    · go_wp2_with (first | (go_at_call 27; (with_reducible refine (lcopy_any g 1 at1).mono ?_); rintro e w1 ⟨d1, rfl, h1⟩; clear g) | (go_at_call 13; (with_reducible refine (write_any h1).mono ?_); rintro e w1 ⟨v1, rfl, h2⟩; clear h1) | (go_at_call 15; (with_reducible refine (lput_as h2 1 0 (by decide) at1 at0 hb0 _ (by omega) (by omega) AP.out).mono ?_); rintro e w2 ⟨rfl, h3⟩; simp only [set0, set1] at h3; clear h2) | (go_at_call 27; (with_reducible refine (lcopy_any h3 3 at3).mono ?_); rintro e w1 ⟨d2, rfl, h4⟩; clear h3) | (go_at_call 13; (with_reducible refine (write_any h4).mono ?_); rintro e w1 ⟨v2, rfl, h5⟩; clear h4) | (go_at_call 15; (with_reducible refine (lput_as h5 1 0 (by decide) at1 at0 hb0 _ (by omega) (by omega) AN.out).mono ?_); rintro e w2 ⟨rfl, h6⟩; simp only [set0, set1] at h6; clear h5))
                      all_goals first
                        | exact ⟨⟨c + 1, _, rfl, by go_num, Or.inl rfl, by have := HC2.out; omega, h6.tail.tail.tail.tail⟩, by have := HC2.out; simp [intOf]; omega⟩
                        | (go_roundw
                           case rel => exact ⟨c + 1, _, rfl, by go_num, Or.inl rfl, by have := HC2.out; omega, h6.tail.tail.tail.tail⟩
                           case measure => have := HC2.out; simp [intOf]; omega)
              · have t1 : ((M : Int) == 1) = false := by simp; omega
                have t4 : (-(M : Int) == -1) = false := by simp; omega
                by_cases hMQ : M ≤ Q
                · obtain rfl : e0 = 0 := by rw [L34.out.2 (fun h => hM1' h.1), if_pos hMQ]
                  have dq : decide (M ≤ Q) = true := by simpa using hMQ
                  clear hM1' hMQ
                  rcases hz with rfl | rfl
                  · go_wp2_with (first | (go_at_call 27; (with_reducible refine (lcopy_any g 1 at1).mono ?_); rintro e w1 ⟨d1, rfl, h1⟩; clear g) | (go_at_call 13; (with_reducible refine (write_any h1).mono ?_); rintro e w1 ⟨v1, rfl, h2⟩; clear h1) | (go_at_call 15; (with_reducible refine (lput_as h2 1 0 (by decide) at1 at0 hb0 _ (by omega) (by omega) AN.out).mono ?_); rintro e w2 ⟨rfl, h3⟩; simp only [set0, set1] at h3; clear h2) | (go_at_call 27; (with_reducible refine (lcopy_any h3 3 at3).mono ?_); rintro e w1 ⟨d2, rfl, h4⟩; clear h3) | (go_at_call 13; (with_reducible refine (write_any h4).mono ?_); rintro e w1 ⟨v2, rfl, h5⟩; clear h4) | (go_at_call 15; (with_reducible refine (lput_as h5 1 0 (by decide) at1 at0 hb0 _ (by omega) (by omega) AP.out).mono ?_); rintro e w2 ⟨rfl, h6⟩; simp only [set0, set1] at h6; clear h5))
                    all_goals first
                      | exact ⟨⟨c + 1, _, rfl, by go_num, Or.inr rfl, by have := HC2.out; omega, h6.tail.tail.tail.tail⟩, by have := HC2.out; simp [intOf]; omega⟩
                      | (go_roundw
                         case rel => exact ⟨c + 1, _, rfl, by go_num, Or.inr rfl, by have := HC2.out; omega, h6.tail.tail.tail.tail⟩
                         case measure => have := HC2.out; simp [intOf]; omega)
                  · go_wp2_with (first | (go_at_call 27; (with_reducible refine (lcopy_any g 1 at1).mono ?_); rintro e w1 ⟨d1, rfl, h1⟩; clear g) | (go_at_call 13; (with_reducible refine (write_any h1).mono ?_); rintro e w1 ⟨v1, rfl, h2⟩; clear h1) | (go_at_call 15; (with_reducible refine (lput_as h2 1 0 (by decide) at1 at0 hb0 _ (by omega) (by omega) AP.out).mono ?_); rintro e w2 ⟨rfl, h3⟩; simp only [set0, set1] at h3; clear h2) | (go_at_call 27; (with_reducible refine (lcopy_any h3 3 at3).mono ?_); rintro e w1 ⟨d2, rfl, h4⟩; clear h3) | (go_at_call 13; (with_reducible refine (write_any h4).mono ?_); rintro e w1 ⟨v2, rfl, h5⟩; clear h4) | (go_at_call 15; (with_reducible refine (lput_as h5 1 0 (by decide) at1 at0 hb0 _ (by omega) (by omega) AN.out).mono ?_); rintro e w2 ⟨rfl, h6⟩; simp only [set0, set1] at h6; clear h5))
                    all_goals first
                      | exact ⟨⟨c + 1, _, rfl, by go_num, Or.inl rfl, by have := HC2.out; omega, h6.tail.tail.tail.tail⟩, by have := HC2.out; simp [intOf]; omega⟩
                      | (go_roundw
                         case rel => exact ⟨c + 1, _, rfl, by go_num, Or.inl rfl, by have := HC2.out; omega, h6.tail.tail.tail.tail⟩
                         case measure => have := HC2.out; simp [intOf]; omega)
                · obtain rfl : e0 = 12 := by rw [L34.out.2 (fun h => hM1' h.1), if_neg hMQ]
                  have dq : decide (M ≤ Q) = false := by simpa using hMQ
                  clear hM1' hMQ
                  rcases hz with rfl | rfl
                  · go_wp2_with (first | (go_at_call 27; (with_reducible refine (lcopy_any g 1 at1).mono ?_); rintro e w1 ⟨d1, rfl, h1⟩; clear g) | (go_at_call 13; (with_reducible refine (write_any h1).mono ?_); rintro e w1 ⟨v1, rfl, h2⟩; clear h1) | (go_at_call 15; (with_reducible refine (lput_as h2 1 0 (by decide) at1 at0 hb0 _ (by omega) (by omega) AN.out).mono ?_); rintro e w2 ⟨rfl, h3⟩; simp only [set0, set1] at h3; clear h2) | (go_at_call 27; (with_reducible refine (lcopy_any h3 3 at3).mono ?_); rintro e w1 ⟨d2, rfl, h4⟩; clear h3) | (go_at_call 13; (with_reducible refine (write_any h4).mono ?_); rintro e w1 ⟨v2, rfl, h5⟩; clear h4) | (go_at_call 15; (with_reducible refine (lput_as h5 1 0 (by decide) at1 at0 hb0 _ (by omega) (by omega) AP.out).mono ?_); rintro e w2 ⟨rfl, h6⟩; simp only [set0, set1] at h6; clear h5))
                    all_goals first
                      | exact ⟨⟨c + 1, _, rfl, by go_num, Or.inr rfl, by have := HC2.out; omega, h6.tail.tail.tail.tail⟩, by have := HC2.out; simp [intOf]; omega⟩
                      | (go_roundw
                         case rel => exact ⟨c + 1, _, rfl, by go_num, Or.inr rfl, by have := HC2.out; omega, h6.tail.tail.tail.tail⟩
                         case measure => have := HC2.out; simp [intOf]; omega)
                  · go_wp2_with (first | (go_at_call 27; (with_reducible refine (lcopy_any g 1 at1).mono ?_); rintro e w1 ⟨d1, rfl, h1⟩; clear g) | (go_at_call 13; (with_reducible refine (write_any h1).mono ?_); rintro e w1 ⟨v1, rfl, h2⟩; clear h1) | (go_at_call 15; (with_reducible refine (lput_as h2 1 0 (by decide) at1 at0 hb0 _ (by omega) (by omega) AP.out).mono ?_); rintro e w2 ⟨rfl, h3⟩; simp only [set0, set1] at h3; clear h2) | (go_at_call 27; (with_reducible refine (lcopy_any h3 3 at3).mono ?_); rintro e w1 ⟨d2, rfl, h4⟩; clear h3) | (go_at_call 13; (with_reducible refine (write_any h4).mono ?_); rintro e w1 ⟨v2, rfl, h5⟩; clear h4) | (go_at_call 15; (with_reducible refine (lput_as h5 1 0 (by decide) at1 at0 hb0 _ (by omega) (by omega) AN.out).mono ?_); rintro e w2 ⟨rfl, h6⟩; simp only [set0, set1] at h6; clear h5))
                    all_goals first
                      | exact ⟨⟨c + 1, _, rfl, by go_num, Or.inl rfl, by have := HC2.out; omega, h6.tail.tail.tail.tail⟩, by have := HC2.out; simp [intOf]; omega⟩
                      | (go_roundw
                         case rel => exact ⟨c + 1, _, rfl, by go_num, Or.inl rfl, by have := HC2.out; omega, h6.tail.tail.tail.tail⟩
                         case measure => have := HC2.out; simp [intOf]; omega)
            · obtain rfl : c = 2 := by omega
              go_wp2_with (first | (go_at_call 19; (with_reducible refine (most_as g 1 at1 ⟨hK, hs2, MQ.out⟩).mono ?_); rintro e w1 ⟨rfl, g1⟩; clear g) | (go_at_call 10; (with_reducible refine (lknown_any g1).mono ?_); rintro e w1 ⟨rfl, g2⟩))
              exact bodyPost_ret (results_tmp rfl _ _ _) rfl ⟨rfl, g2.below⟩
        · have hN3 : ¬ ((N : Int) < (n : Int)) := by omega
          clear HLT
          go_wp2_with (first | (go_at_call 19; (with_reducible refine (most_as g 1 at1 ⟨hK, hs2, MQ.out⟩).mono ?_); rintro e w1 ⟨rfl, g1⟩; clear g) | (go_at_call 26; (with_reducible refine (mod_as v0 3000 rfl (by decide) (by decide) b5 b6 MR.out _).mono ?_); rintro e w1 ⟨rfl, rfl⟩))
          have HG := Lib.hid g1
          clear g1
          go_loopw [17, 18] (fun z' c' wr => ∃ (c : Nat) (z : Int), z' = .int .i64 z ∧ c' = .int .i64 c ∧ (z = (M : Int) ∨ z = -(M : Int)) ∧ c ≤ 2 ∧ Hp W wr [aWr wb B, aCo cb K l s] []) (fun _ c' _ => 2 - (intOf c').toNat)
          case atStart => exact ⟨0, (M : Int), by (have := HM.out; subst this; go_num), rfl, Or.inl rfl, by omega, HG.out⟩
          case round =>
            obtain ⟨c, z, rfl, rfl, hz, hc, g⟩ := hrel
            by_cases hc2 : c < 2
            · have HC2 := Lib.hid hc2
              have hc3 : (c : Int) < 2 := by omega
              have t2 : (-(M : Int) == 1) = false := by simp; omega
              have t3 : ((M : Int) == -1) = false := by simp <;> omega
              have hmx : ¬ ((M : Int) < -(M : Int)) := by omega
              have hmy : -(M : Int) < (M : Int) := by omega
              clear hc2
              by_cases hM1' : M = 1
              · have t1 : ((M : Int) == 1) = true := by simp; omega
                have t4 : (-(M : Int) == -1) = true := by simp; omega
                have dq : decide (M ≤ Q) = true := by simp; omega
                cases fst
                · obtain rfl : e0 = 0 := by rw [L34.out.2 (fun h => by have := SFX.out.2 rfl; omega), if_pos (by omega)]
                  clear hM1'
                  rcases hz with rfl | rfl
                  · go_wp2_with (first | (go_at_call 27; (with_reducible refine (lcopy_any g 1 at1).mono ?_); rintro e w1 ⟨d1, rfl, h1⟩; clear g) | (go_at_call 13; (with_reducible refine (write_any h1).mono ?_); rintro e w1 ⟨v1, rfl, h2⟩; clear h1) | (go_at_call 15; (with_reducible refine (lput_as h2 1 0 (by decide) at1 at0 hb0 _ (by omega) (by omega) AN.out).mono ?_); rintro e w2 ⟨rfl, h3⟩; simp only [set0, set1] at h3; clear h2) | (go_at_call 27; (with_reducible refine (lcopy_any h3 3 at3).mono ?_); rintro e w1 ⟨d2, rfl, h4⟩; clear h3) | (go_at_call 13; (with_reducible refine (write_any h4).mono ?_); rintro e w1 ⟨v2, rfl, h5⟩; clear h4) | (go_at_call 15; (with_reducible refine (lput_as h5 1 0 (by decide) at1 at0 hb0 _ (by omega) (by omega) AP.out).mono ?_); rintro e w2 ⟨rfl, h6⟩; simp only [set0, set1] at h6; clear h5))
                    all_goals first
                      | exact ⟨⟨c + 1, _, rfl, by go_num, Or.inr rfl, by have := HC2.out; omega, h6.tail.tail.tail.tail⟩, by have := HC2.out; simp [intOf]; omega⟩
                      | (go_roundw
                         case rel => exact ⟨c + 1, _, rfl, by go_num, Or.inr rfl, by have := HC2.out; omega, h6.tail.tail.tail.tail⟩
                         case measure => have := HC2.out; simp [intOf]; omega)
                  · go_wp2_with (first | (go_at_call 27; (with_reducible refine (lcopy_any g 1 at1).mono ?_); rintro e w1 ⟨d1, rfl, h1⟩; clear g) | (go_at_call 13; (with_reducible refine (write_any h1).mono ?_); rintro e w1 ⟨v1, rfl, h2⟩; clear h1) | (go_at_call 15; (with_reducible refine (lput_as h2 1 0 (by decide) at1 at0 hb0 _ (by omega) (by omega) AP.out).mono ?_); rintro e w2 ⟨rfl, h3⟩; simp only [set0, set1] at h3; clear h2) | (go_at_call 27; (with_reducible refine (lcopy_any h3 3 at3).mono ?_); rintro e w1 ⟨d2, rfl, h4⟩; clear h3) | (go_at_call 13; (with_reducible refine (write_any h4).mono ?_); rintro e w1 ⟨v2, rfl, h5⟩; clear h4) | (go_at_call 15; (with_reducible refine (lput_as h5 1 0 (by decide) at1 at0 hb0 _ (by omega) (by omega) AN.out).mono ?_); rintro e w2 ⟨rfl, h6⟩; simp only [set0, set1] at h6; clear h5))
                    all_goals first
                      | exact ⟨⟨c + 1, _, rfl, by go_num, Or.inl rfl, by have := HC2.out; omega, h6.tail.tail.tail.tail⟩, by have := HC2.out; simp [intOf]; omega⟩
                      | (go_roundw
                         case rel => exact ⟨c + 1, _, rfl, by go_num, Or.inl rfl, by have := HC2.out; omega, h6.tail.tail.tail.tail⟩
                         case measure => have := HC2.out; simp [intOf]; omega)
                · by_cases ho : o < 3
                  · obtain rfl : e0 = 2 := L34.out.1 ⟨hM1', by rw [SFX.out.1 rfl]; unfold s0; rw [if_pos ho]⟩
                    have to : decide (o < 3) = true := by simpa using ho
                    have to2 : decide (3 ≤ o) = false := by simp; omega
                    clear hM1'
                    rcases hz with rfl | rfl
                    · go_wp2_with (first | (go_at_call 27; (with_reducible refine (lcopy_any g 1 at1).mono ?_); rintro e w1 ⟨d1, rfl, h1⟩; clear g) | (go_at_call 13; (with_reducible refine (write_any h1).mono ?_); rintro e w1 ⟨v1, rfl, h2⟩; clear h1) | (go_at_call 15; (with_reducible refine (lput_as h2 1 0 (by decide) at1 at0 hb0 _ (by omega) (by omega) AN.out).mono ?_); rintro e w2 ⟨rfl, h3⟩; simp only [set0, set1] at h3; clear h2) | (go_at_call 27; (with_reducible refine (lcopy_any h3 3 at3).mono ?_); rintro e w1 ⟨d2, rfl, h4⟩; clear h3) | (go_at_call 13; (with_reducible refine (write_any h4).mono ?_); rintro e w1 ⟨v2, rfl, h5⟩; clear h4) | (go_at_call 15; (with_reducible refine (lput_as h5 1 0 (by decide) at1 at0 hb0 _ (by omega) (by omega) AP.out).mono ?_); rintro e w2 ⟨rfl, h6⟩; simp only [set0, set1] at h6; clear h5))
                      all_goals first
                        | exact ⟨⟨c + 1, _, rfl, by go_num, Or.inr rfl, by have := HC2.out; omega, h6.tail.tail.tail.tail⟩, by have := HC2.out; simp [intOf]; omega⟩
                        | (go_roundw
                           case rel => exact ⟨c + 1, _, rfl, by go_num, Or.inr rfl, by have := HC2.out; omega, h6.tail.tail.tail.tail⟩
                           case measure => have := HC2.out; simp [intOf]; omega)
                    · go_wp2_with (first | (go_at_call 27; (with_reducible refine (lcopy_any g 1 at1).mono ?_); rintro e w1 ⟨d1, rfl, h1⟩; clear g) | (go_at_call 13; (with_reducible refine (write_any h1).mono ?_); rintro e w1 ⟨v1, rfl, h2⟩; clear h1) | (go_at_call 15; (with_reducible refine (lput_as h2 1 0 (by decide) at1 at0 hb0 _ (by omega) (by omega) AP.out).mono ?_); rintro e w2 ⟨rfl, h3⟩; simp only [set0, set1] at h3; clear h2) | (go_at_call 27; (with_reducible refine (lcopy_any h3 3 at3).mono ?_); rintro e w1 ⟨d2, rfl, h4⟩; clear h3) | (go_at_call 13; (with_reducible refine (write_any h4).mono ?_); rintro e w1 ⟨v2, rfl, h5⟩; clear h4) | (go_at_call 15; (with_reducible refine (lput_as h5 1 0 (by decide) at1 at0 hb0 _ (by omega) (by omega) AN.out).mono ?_); rintro e w2 ⟨rfl, h6⟩; simp only [set0, set1] at h6; clear h5))
                      all_goals first
                        | exact ⟨⟨c + 1, _, rfl, by go_num, Or.inl rfl, by have := HC2.out; omega, h6.tail.tail.tail.tail⟩, by have := HC2.out; simp [intOf]; omega⟩
                        | (go_roundw
                           case rel => exact ⟨c + 1, _, rfl, by go_num, Or.inl rfl, by have := HC2.out; omega, h6.tail.tail.tail.tail⟩
                           case measure => have := HC2.out; simp [intOf]; omega)
                  · obtain rfl : e0 = 0 := by rw [L34.out.2 (fun h => by have := SFX.out.1 rfl; rw [h.2] at this; unfold s0 at this; rw [if_neg ho] at this; omega), if_pos (by omega)]
                    have ho3 : 3 ≤ o := by omega
                    clear hM1' ho
                    rcases hz with rfl | rfl
                    · go_wp2_with (first | (go_at_call 27; (with_reducible refine (lcopy_any g 1 at1).mono ?_); rintro e w1 ⟨d1, rfl, h1⟩; clear g) | (go_at_call 13; (with_reducible refine (write_any h1).mono ?_); rintro e w1 ⟨v1, rfl, h2⟩; clear h1) | (go_at_call 15; (with_reducible refine (lput_as h2 1 0 (by decide) at1 at0 hb0 _ (by omega) (by omega) AN.out).mono ?_); rintro e w2 ⟨rfl, h3⟩; simp only [set0, set1] at h3; clear h2) | (go_at_call 27; (with_reducible refine (lcopy_any h3 3 at3).mono ?_); rintro e w1 ⟨d2, rfl, h4⟩; clear h3) | (go_at_call 13; (with_reducible refine (write_any h4).mono ?_); rintro e w1 ⟨v2, rfl, h5⟩; clear h4) | (go_at_call 15; (with_reducible refine (lput_as h5 1 0 (by decide) at1 at0 hb0 _ (by omega) (by omega) AP.out).mono ?_); rintro e w2 ⟨rfl, h6⟩; simp only [set0, set1] at h6; clear h5))
                      all_goals first
                        | exact ⟨⟨c + 1, _, rfl, by go_num, Or.inr rfl, by have := HC2.out; omega, h6.tail.tail.tail.tail⟩, by have := HC2.out; simp [intOf]; omega⟩
                        | (go_roundw
                           case rel => exact ⟨c + 1, _, rfl, by go_num, Or.inr rfl, by have := HC2.out; omega, h6.tail.tail.tail.tail⟩
                           case measure => have := HC2.out; simp [intOf]; omega)
                    · go_wp2_with (first | (go_at_call 27; (with_reducible refine (lcopy_any g 1 at1).mono ?_); rintro e w1 ⟨d1, rfl, h1⟩; clear g) | (go_at_call 13; (with_reducible refine (write_any h1).mono ?_); rintro e w1 ⟨v1, rfl, h2⟩; clear h1) | (go_at_call 15; (with_reducible refine (lput_as h2 1 0 (by decide) at1 at0 hb0 _ (by omega) (by omega) AP.out).mono ?_); rintro e w2 ⟨rfl, h3⟩; simp only [set0, set1] at h3; clear h2) | (go_at_call 27; (with_reducible refine (lcopy_any h3 3 at3).mono ?_); rintro e w1 ⟨d2, rfl, h4⟩; clear h3) | (go_at_call 13; (with_reducible refine (write_any h4).mono ?_); rintro e w1 ⟨v2, rfl, h5⟩; clear h4) | (go_at_call 15; (with_reducible refine (lput_as h5 1 0 (by decide) at1 at0 hb0 _ (by omega) (by omega) AN.out).mono ?_); rintro e w2 ⟨rfl, h6⟩; simp only [set0, set1] at h6; clear h5))
                      all_goals first
                        | exact ⟨⟨c + 1, _, rfl, by go_num, Or.inl rfl, by have := HC2.out; omega, h6.tail.tail.tail.tail⟩, by have := HC2.out; simp [intOf]; omega⟩
                        | (go_roundw
                           case rel => exact ⟨c + 1, _, rfl, by go_num, Or.inl rfl, by have := HC2.out; omega, h6.tail.tail.tail.tail⟩
                           case measure => have := HC2.out; simp [intOf]; omega)
              · have t1 : ((M : Int) == 1) = false := by simp; omega
                have t4 : (-(M : Int) == -1) = false := by simp; omega
                by_cases hMQ : M ≤ Q
                · obtain rfl : e0 = 0 := by rw [L34.out.2 (fun h => hM1' h.1), if_pos hMQ]
                  have dq : decide (M ≤ Q) = true := by simpa using hMQ
                  clear hM1' hMQ
                  rcases hz with rfl | rfl
                  · go_wp2_with (first | (go_at_call 27; (with_reducible refine (lcopy_any g 1 at1).mono ?_); rintro e w1 ⟨d1, rfl, h1⟩; clear g) | (go_at_call 13; (with_reducible refine (write_any h1).mono ?_); rintro e w1 ⟨v1, rfl, h2⟩; clear h1) | (go_at_call 15; (with_reducible refine (lput_as h2 1 0 (by decide) at1 at0 hb0 _ (by omega) (by omega) AN.out).mono ?_); rintro e w2 ⟨rfl, h3⟩; simp only [set0, set1] at h3; clear h2) | (go_at_call 27; (with_reducible refine (lcopy_any h3 3 at3).mono ?_); rintro e w1 ⟨d2, rfl, h4⟩; clear h3) | (go_at_call 13; (with_reducible refine (write_any h4).mono ?_); rintro e w1 ⟨v2, rfl, h5⟩; clear h4) | (go_at_call 15; (with_reducible refine (lput_as h5 1 0 (by decide) at1 at0 hb0 _ (by omega) (by omega) AP.out).mono ?_); rintro e w2 ⟨rfl, h6⟩; simp only [set0, set1] at h6; clear h5))
                    all_goals first
                      | exact ⟨⟨c + 1, _, rfl, by go_num, Or.inr rfl, by have := HC2.out; omega, h6.tail.tail.tail.tail⟩, by have := HC2.out; simp [intOf]; omega⟩
                      | (go_roundw
                         case rel => exact ⟨c + 1, _, rfl, by go_num, Or.inr rfl, by have := HC2.out; omega, h6.tail.tail.tail.tail⟩
                         case measure => have := HC2.out; simp [intOf]; omega)
                  · go_wp2_with (first | (go_at_call 27; (with_reducible refine (lcopy_any g 1 at1).mono ?_); rintro e w1 ⟨d1, rfl, h1⟩; clear g) | (go_at_call 13; (with_reducible refine (write_any h1).mono ?_); rintro e w1 ⟨v1, rfl, h2⟩; clear h1) | (go_at_call 15; (with_reducible refine (lput_as h2 1 0 (by decide) at1 at0 hb0 _ (by omega) (by omega) AP.out).mono ?_); rintro e w2 ⟨rfl, h3⟩; simp only [set0, set1] at h3; clear h2) | (go_at_call 27; (with_reducible refine (lcopy_any h3 3 at3).mono ?_); rintro e w1 ⟨d2, rfl, h4⟩; clear h3) | (go_at_call 13; (with_reducible refine (write_any h4).mono ?_); rintro e w1 ⟨v2, rfl, h5⟩; clear h4) | (go_at_call 15; (with_reducible refine (lput_as h5 1 0 (by decide) at1 at0 hb0 _ (by omega) (by omega) AN.out).mono ?_); rintro e w2 ⟨rfl, h6⟩; simp only [set0, set1] at h6; clear h5))
                    all_goals first
                      | exact ⟨⟨c + 1, _, rfl, by go_num, Or.inl rfl, by have := HC2.out; omega, h6.tail.tail.tail.tail⟩, by have := HC2.out; simp [intOf]; omega⟩
                      | (go_roundw
                         case rel => exact ⟨c + 1, _, rfl, by go_num, Or.inl rfl, by have := HC2.out; omega, h6.tail.tail.tail.tail⟩
                         case measure => have := HC2.out; simp [intOf]; omega)
                · obtain rfl : e0 = 12 := by rw [L34.out.2 (fun h => hM1' h.1), if_neg hMQ]
                  have dq : decide (M ≤ Q) = false := by simpa using hMQ
                  clear hM1' hMQ
                  rcases hz with rfl | rfl
                  · go_wp2_with (first | (go_at_call 27; (with_reducible refine (lcopy_any g 1 at1).mono ?_); rintro e w1 ⟨d1, rfl, h1⟩; clear g) | (go_at_call 13; (with_reducible refine (write_any h1).mono ?_); rintro e w1 ⟨v1, rfl, h2⟩; clear h1) | (go_at_call 15; (with_reducible refine (lput_as h2 1 0 (by decide) at1 at0 hb0 _ (by omega) (by omega) AN.out).mono ?_); rintro e w2 ⟨rfl, h3⟩; simp only [set0, set1] at h3; clear h2) | (go_at_call 27; (with_reducible refine (lcopy_any h3 3 at3).mono ?_); rintro e w1 ⟨d2, rfl, h4⟩; clear h3) | (go_at_call 13; (with_reducible refine (write_any h4).mono ?_); rintro e w1 ⟨v2, rfl, h5⟩; clear h4) | (go_at_call 15; (with_reducible refine (lput_as h5 1 0 (by decide) at1 at0 hb0 _ (by omega) (by omega) AP.out).mono ?_); rintro e w2 ⟨rfl, h6⟩; simp only [set0, set1] at h6; clear h5))
                    all_goals first
                      | exact ⟨⟨c + 1, _, rfl, by go_num, Or.inr rfl, by have := HC2.out; omega, h6.tail.tail.tail.tail⟩, by have := HC2.out; simp [intOf]; omega⟩
                      | (go_roundw
                         case rel => exact ⟨c + 1, _, rfl, by go_num, Or.inr rfl, by have := HC2.out; omega, h6.tail.tail.tail.tail⟩
                         case measure => have := HC2.out; simp [intOf]; omega)
                  · go_wp2_with (first | (go_at_call 27; (with_reducible refine (lcopy_any g 1 at1).mono ?_); rintro e w1 ⟨d1, rfl, h1⟩; clear g) | (go_at_call 13; (with_reducible refine (write_any h1).mono ?_); rintro e w1 ⟨v1, rfl, h2⟩; clear h1) | (go_at_call 15; (with_reducible refine (lput_as h2 1 0 (by decide) at1 at0 hb0 _ (by omega) (by omega) AP.out).mono ?_); rintro e w2 ⟨rfl, h3⟩; simp only [set0, set1] at h3; clear h2) | (go_at_call 27; (with_reducible refine (lcopy_any h3 3 at3).mono ?_); rintro e w1 ⟨d2, rfl, h4⟩; clear h3) | (go_at_call 13; (with_reducible refine (write_any h4).mono ?_); rintro e w1 ⟨v2, rfl, h5⟩; clear h4) | (go_at_call 15; (with_reducible refine (lput_as h5 1 0 (by decide) at1 at0 hb0 _ (by omega) (by omega) AN.out).mono ?_); rintro e w2 ⟨rfl, h6⟩; simp only [set0, set1] at h6; clear h5))
                    all_goals first
                      | exact ⟨⟨c + 1, _, rfl, by go_num, Or.inl rfl, by have := HC2.out; omega, h6.tail.tail.tail.tail⟩, by have := HC2.out; simp [intOf]; omega⟩
                      | (go_roundw
                         case rel => exact ⟨c + 1, _, rfl, by go_num, Or.inl rfl, by have := HC2.out; omega, h6.tail.tail.tail.tail⟩
                         case measure => have := HC2.out; simp [intOf]; omega)
            · obtain rfl : c = 2 := by omega
              go_wp2_with (first | (go_at_call 19; (with_reducible refine (most_as g 1 at1 ⟨hK, hs2, MQ.out⟩).mono ?_); rintro e w1 ⟨rfl, g1⟩; clear g) | (go_at_call 10; (with_reducible refine (lknown_any g1).mono ?_); rintro e w1 ⟨rfl, g2⟩))
              exact bodyPost_ret (results_tmp rfl _ _ _) rfl ⟨rfl, g2.below⟩
  · have hnd : decide ((20 : Int) < (n : Int)) = true := by simp; omega
    go_enter Try.func4, Try.ntmps4
    go_wp2_with (first | (go_at_call 23; (with_reducible refine (pair_any t0 o0 b1 b2 b3 b4 _).mono ?_); rintro e w1 ⟨t, o, p1, p2, p3, p4, rfl, rfl⟩) | (go_at_call 24; (with_reducible refine (made_any hS t o rfl rfl p2 p3 (by omega) ⟨rfl, rfl, rfl⟩).mono ?_); rintro e w1 ⟨cb, rfl, h1⟩; clear hS) | (go_at_call 10; (with_reducible refine (lknown_any h1).mono ?_); rintro e w1 ⟨rfl, g4⟩))
    exact bodyPost_ret (results_tmp rfl _ _ _) rfl ⟨rfl, g4.below⟩

end Go.Proofs.Ytmlkkeabgnhhnaa
