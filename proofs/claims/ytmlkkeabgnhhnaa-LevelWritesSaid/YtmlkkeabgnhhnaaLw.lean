/- The walk of LevelBack. -/
import Derived.Test.YtmlkkeabgnhhnaaLk
import Derived.Test.YtmlkkeabgnhhnaaLb
import Derived.Test.YtmlkkeabgnhhnaaSl
import Derived.Test.YtmlkkeabgnhhnaaFl
import Derived.Deep.LoopGhost
namespace Go.Proofs.Ytmlkkeabgnhhnaa
open Go.RowKit
set_option linter.unusedVariables false
set_option maxRecDepth 100000
set_option linter.unusedSimpArgs false

/-- What a level that fits does to a state. -/
structure StepOk (K l s : Nat) (B : List Bool) (x : Int) (K' l' s' : Nat) (B' : List Bool) : Prop where
  put : lpE K l s x = 0 ∧ lpB B K l s x = B' ∧ lpK K l s x = K' ∧ lpL K l s x = l' ∧ lpS K l s x = s'
  xlo : -9223372036854775808 ≤ x
  xhi : x < 9223372036854775808
theorem step_ok {K l s : Nat} {B : List Bool} {x : Int} {first : Bool} (hK : K ≤ 6) (hl : l ≠ 0) (hs : (s = 0 ∨ s = 2) ∧ (0 < s → first = true)) (x1 : 1 ≤ x.natAbs) (x2 : x.natAbs ≤ lmost K l s) (x3 : first = true → 2 ≤ x.natAbs) :
    ∃ K' l' s' B', StepOk K l s B x K' l' s' B' ∧ K' ≤ 6 ∧ l' = l - 1 ∧ s' = 0 ∧ B'.length ≤ B.length + 28 := by
  have hE := fit_ok hK hl x1 x2 (fun h => x3 (hs.2 h)) hs.1
  obtain ⟨p1, p2, p3, p4, p5⟩ := put_ok (B := B) hK hs.1 hE
  have hm := lmost_le (l := l) hK (show s ≤ 2 by omega)
  exact ⟨_, _, _, _, ⟨⟨hE, rfl, rfl, rfl, rfl⟩, by omega, by omega⟩, p1, p2, p3, p5⟩
theorem sbits_app2 (a b : ByteArray) : sbits (a ++ b) = sbits a ++ sbits b := by
  unfold sbits
  rw [← sbitsL_append]
  congr 1
theorem rd_fit {W w : World} {L : List AObj} {F : List (Nat × Obj)} (h : Hp W w L F) (s : ByteArray) (hs : s.size ≤ 2 ^ 48) {x : ByteArray} (hx : x = s) :
    Calls Try.prog 28 #[.string x] w (Makes W L F fun b => aRd b s 0) := by
  subst hx
  exact read_any h x hs
theorem at4 {a b c d e : AObj} {l : List AObj} : (a :: b :: c :: d :: e :: l)[4]? = some e := rfl
theorem set4 {a b c d e x : AObj} {l : List AObj} : (a :: b :: c :: d :: e :: l).set 4 x = a :: b :: c :: d :: x :: l := rfl
def vi (x : Int) : Value := .int .i64 x
set_option maxHeartbeats 4000000 in
theorem lback_walk {W : World} {sp : Option Addr} {n cap b o' : Nat} {C : Nat → List Value} (t0 o0 : Int) (b1 : -9223372036854775808 ≤ t0) (b2 : t0 < 9223372036854775808) (b3 : -9223372036854775808 ≤ o0) (b4 : o0 < 9223372036854775808) (T : ByteArray) (hin : RowsIn Try.prog W [.int .i64] sp n b o' C) (hn63 : n ≤ 9223372036854775807) :
    Calls Try.prog 7 #[.int .i64 t0, .int .i64 o0, .slice sp n cap, .string T] W fun e w' => e = .returned (.bool true) ∧ Below W.heap.size W w' := by
  have hS := Hp.start W
  have HIN := Lib.hid hin
  clear hin
  by_cases hg : n ≤ 20 ∧ T.size ≤ 100
  · obtain ⟨hn, ht⟩ := hg
    have hnd : decide ((20 : Int) < (n : Int)) = false := by simp; omega
    have htd : decide (100 < T.size) = false := by simp; omega
    obtain ⟨ti, ti1, ti2, ti3, ti4⟩ := i64_info
    go_enter Try.func7, Try.ntmps7
    go_wp2_with (first | (go_at_call 23; (with_reducible refine (pair_any t0 o0 b1 b2 b3 b4 _).mono ?_); rintro e w1 ⟨t, o, p1, p2, p3, p4, rfl, rfl⟩) | (go_at_call 24; (with_reducible refine (made_any hS t o rfl rfl p2 p3 (by omega) ⟨rfl, rfl, rfl⟩).mono ?_); rintro e w1 ⟨cb, rfl, h1⟩; clear hS) | (go_at_call 24; (with_reducible refine (made_any h1 t o rfl rfl p2 p3 (by omega) ⟨rfl, rfl, rfl⟩).mono ?_); rintro e w1 ⟨db, rfl, h2⟩; clear h1) | (go_at_call 13; (with_reducible refine (write_any h2).mono ?_); rintro e w1 ⟨wb, rfl, h3⟩; clear h2))
    have h4 := h3.sl_nil 3 1
    have HS := Lib.hid h4
    clear h3 h4
    obtain ⟨X, hX⟩ : ∃ X, X = LSt.start t o := ⟨_, rfl⟩
    go_loopg [14, 15] 17 (fun g a' i' wr => ∃ (vs : List Int) (K l s : Nat) (B : List Bool) (spv : Option Addr) (cv : Nat), g = 17 - vs.length ∧ i' = .int .i64 vs.length ∧ a' = .slice spv vs.length cv ∧ vs.length ≤ t - o ∧ Hid (X.puts vs = ⟨K, l, s, B⟩ ∧ LGood X vs) ∧ K ≤ 6 ∧ l = t - o - vs.length ∧ ((s = 0 ∨ s = 2) ∧ (0 < s → vs.length = 0)) ∧ B.length ≤ 28 * vs.length ∧
      Hp W wr [aSl 3 1 (.slice spv vs.length cv) vs.length (vs.map vi), aWr wb B, aCo db (k0 t o) (t - o) (s0 o), aCo cb K l s] [])
    case atStart =>
      exact ⟨[], _, _, _, _, none, 0, rfl, rfl, rfl, by simp, Lib.hid ⟨by rw [hX]; rfl, LGood.nil X⟩, by unfold k0; split <;> omega, by simp, ⟨by unfold s0; split <;> omega, fun _ => rfl⟩, by simp, HS.out⟩
    case round =>
      obtain ⟨vs, K, l, s, B, spv, cv, rfl, rfl, rfl, g1, HQ, hK, hl, hsf, hB, g⟩ := hrel
      obtain ⟨N, hN⟩ : ∃ N, N = vs.length := ⟨_, rfl⟩
      rw [← hN] at g1 hl hsf hB g
      simp only [← hN]
      by_cases hlt : N < t - o
      · have hl0 : l ≠ 0 := by omega
        have hs2 : s ≤ 2 := by omega
        have hb3 : K ≤ 6 ∧ l ≤ 16 ∧ (s = 0 ∨ s = 2) ∧ B.length ≤ 2 ^ 39 := ⟨hK, by omega, hsf.1, by omega⟩
        have SF : Hid ((s = 0 ∨ s = 2) ∧ (0 < s → ((N : Int) == 0) = true)) := Lib.hid ⟨hsf.1, fun h => by simp; have := hsf.2 h; omega⟩
        have HN := Lib.hid hN
        clear hN hsf
        have hlt' : (N : Int) < (t : Int) - (o : Int) := by omega
        by_cases hNn : N < n
        · obtain ⟨rfl, hblt⟩ := HIN.out.at_ (by omega)
          obtain ⟨k0, k1⟩ := HIN.out.int hNn 0 (k := .i64) rfl
          have k2 := HIN.out.old hNn k0 g.below
          simp only [List.length_singleton, Nat.mul_one, Nat.add_zero] at k2
          obtain ⟨q1, q2⟩ := bounds_i64 k1
          clear k0 k1
          generalize zat C N 0 = v at *
          have HV1 := Lib.hid q1
          have HV2 := Lib.hid (show v < 9223372036854775808 by omega)
          clear q1 q2
          go_wp2_with (first | (go_at_call 25; (with_reducible refine (fit_any g 3 at3 hK hs2 hl0 _ HV1.out HV2.out _).mono ?_); rintro e w1 ⟨x, rfl, x1, x2, x3, g1⟩; clear g; obtain ⟨K', l', s', B', hx, y1, y2, y3, y4⟩ := step_ok hK hl0 SF.out x1 x2 x3) | (go_at_call 15; (with_reducible refine (lput_as g1 3 1 (by decide) at3 at1 hb3 x hx.xlo hx.xhi hx.put).mono ?_); rintro e w2 ⟨rfl, g2⟩; simp only [set1, set3] at g2; clear g1) | (at_builtin; refine wpList_append_hp rfl (.tmp 77) (.tmp 79) 22 rfl 3 ti (.int .i64 0) 1 8 Try.underlying22 ti1 ti2 ti3 ti4 rfl (by decide) (g2.lost _) 0 at0 rfl ⟨w2.heap.size, 0, none⟩ 1 1 [.int .i64 x] rfl rfl ?c1 ?c2 ?c3 ?c4 ?_))
          case c1 => exact one_new _ _ _
          case c2 => intro u hu; simp at hu; subst hu; rfl
          case c3 => unfold maxLen; omega
          case c4 => omega
          intro v' w3 g3
          try simp only [set0] at g3
          obtain ⟨sp', cap', rfl, _, _⟩ := g3.sl_form 0 at0
          go_wp2_with (fail)
          go_roundg (17 - (N + 1))
          case rel =>
            have hl' : (vs ++ [x]).length = N + 1 := by simp [HN.out]
            refine ⟨vs ++ [x], K', l', s', B', sp', cap', by rw [hl'], by rw [hl']; rfl, by rw [hl'], by omega, Lib.hid ⟨?_, ?_⟩, y1, by omega, ⟨by omega, by omega⟩, by omega, ?_⟩
            · rw [LSt.puts_snoc, HQ.out.1]
              obtain ⟨-, q2, q3, q4, q5⟩ := hx.put
              unfold LSt.put
              simp only
              rw [q2, q3, q4, q5]
            · refine HQ.out.2.snoc ?_ ?_ ?_ <;> rw [HQ.out.1]
              · exact hx.put.1
              · exact hK
              · exact SF.out.1
            · rw [hl', List.map_append, y2, y3, hl]
              exact g3
          case measure => have := HN.out; omega
        · have HV1 := Lib.hid (show -9223372036854775808 ≤ (N : Int) by omega)
          have HV2 := Lib.hid (show (N : Int) < 9223372036854775808 by omega)
          go_wp2_with (first | (go_at_call 25; (with_reducible refine (fit_any g 3 at3 hK hs2 hl0 _ HV1.out HV2.out _).mono ?_); rintro e w1 ⟨x, rfl, x1, x2, x3, g1⟩; clear g; obtain ⟨K', l', s', B', hx, y1, y2, y3, y4⟩ := step_ok hK hl0 SF.out x1 x2 x3) | (go_at_call 15; (with_reducible refine (lput_as g1 3 1 (by decide) at3 at1 hb3 x hx.xlo hx.xhi hx.put).mono ?_); rintro e w2 ⟨rfl, g2⟩; simp only [set1, set3] at g2; clear g1) | (at_builtin; refine wpList_append_hp rfl (.tmp 77) (.tmp 79) 22 rfl 3 ti (.int .i64 0) 1 8 Try.underlying22 ti1 ti2 ti3 ti4 rfl (by decide) (g2.lost _) 0 at0 rfl ⟨w2.heap.size, 0, none⟩ 1 1 [.int .i64 x] rfl rfl ?c1 ?c2 ?c3 ?c4 ?_))
          case c1 => exact one_new _ _ _
          case c2 => intro u hu; simp at hu; subst hu; rfl
          case c3 => unfold maxLen; omega
          case c4 => omega
          intro v' w3 g3
          try simp only [set0] at g3
          obtain ⟨sp', cap', rfl, _, _⟩ := g3.sl_form 0 at0
          go_wp2_with (fail)
          go_roundg (17 - (N + 1))
          case rel =>
            have hl' : (vs ++ [x]).length = N + 1 := by simp [HN.out]
            refine ⟨vs ++ [x], K', l', s', B', sp', cap', by rw [hl'], by rw [hl']; rfl, by rw [hl'], by omega, Lib.hid ⟨?_, ?_⟩, y1, by omega, ⟨by omega, by omega⟩, by omega, ?_⟩
            · rw [LSt.puts_snoc, HQ.out.1]
              obtain ⟨-, q2, q3, q4, q5⟩ := hx.put
              unfold LSt.put
              simp only
              rw [q2, q3, q4, q5]
            · refine HQ.out.2.snoc ?_ ?_ ?_ <;> rw [HQ.out.1]
              · exact hx.put.1
              · exact hK
              · exact SF.out.1
            · rw [hl', List.map_append, y2, y3, hl]
              exact g3
          case measure => have := HN.out; omega
      · obtain rfl : N = t - o := by omega
        obtain rfl : l = 0 := by omega
        have hs2 : s ≤ 2 := by omega
        obtain ⟨P, hP⟩ : ∃ P, P = pstr B := ⟨_, rfl⟩
        obtain ⟨S, hS⟩ : ∃ S, S = P ++ T := ⟨_, rfl⟩
        have hPs : P.size = (B.length + 7) / 8 := by rw [hP, pstr_size]
        have hP9 : P.size ≤ 1000 := by omega
        have hSs : S.size ≤ 2 ^ 48 := by rw [hS]; simp; omega
        have hSb : ∃ R, sbits S = B ++ R := ⟨List.replicate ((8 - B.length % 8) % 8) false ++ sbits T, by rw [hS, sbits_app2, hP, sbits_pstr, List.append_assoc]⟩
        obtain ⟨R, hSR⟩ := hSb
        have HSB := Lib.hid hSR
        have EP := Lib.hid hP.symm
        have HN := Lib.hid hN
        have hB41 : B.length ≤ 2 ^ 41 := by omega
        have hg1 : ¬ ((((t - o : Nat) : Int)) < (t : Int) - (o : Int)) := by omega
        have HS2 := Lib.hid hsf.1
        have ES := Lib.hid hS.symm
        clear hS hP hSR hN hPs hl hsf
        go_wp2_with (first | (go_at_call 34; (with_reducible refine (bytes_eq g 1 at1 hB41 EP.out).mono ?_); rintro e w1 ⟨rfl, g2⟩; clear g) | (go_at_call 28; (with_reducible refine (rd_fit g2 S hSs ES.out).mono ?_); rintro e w1 ⟨rb, rfl, g3⟩; clear g2))
        have HS3 := Lib.hid g3
        clear g3
        obtain ⟨N, hN⟩ : ∃ N, t - o = N := ⟨_, rfl⟩
        rw [hN] at HS3 HN
        simp only [hN]
        have hl16 : N ≤ 16 := by omega
        have HNN := Lib.hid hN
        go_loopg [18] (N + 1) (fun gg i' wr => ∃ (j K2 l2 s2 : Nat) (B2 : List Bool), gg = N + 1 - j ∧ i' = .int .i64 j ∧ j ≤ N ∧ Hid (X.puts (vs.take j) = ⟨K2, l2, s2, B2⟩) ∧ (K2 ≤ 6 ∧ l2 ≤ 16 ∧ s2 ≤ 2) ∧ l2 = N - j ∧
          Hp W wr [aRd rb S B2.length, aSl 3 1 (.slice spv N cv) N (vs.map vi), aWr wb B, aCo db K2 l2 s2, aCo cb K 0 s] [])
        case atStart =>
          refine ⟨0, k0 t o, t - o, s0 o, [], rfl, rfl, Nat.zero_le _, Lib.hid (by rw [hX]; rfl), ⟨by unfold k0; split <;> omega, by omega, by unfold s0; split <;> omega⟩, by omega, ?_⟩
          rw [hN]
          exact HS3.out
        case round =>
          obtain ⟨j, K2, l2, s2, B2, rfl, rfl, hj, HQ2, hb2, hl2, g⟩ := hrel
          by_cases hjN : j < N
          · have hjv : j < vs.length := by rw [← HN.out]; exact hjN
            obtain ⟨K', l', s', B', r0, r1, r2, r3, r4, r5, r6, r7, r8, r9⟩ := HQ.out.2.read (S := S) (R := R) (by rw [HQ.out.1]; exact HSB.out) hjv HQ2.out
            obtain ⟨z, hz⟩ : ∃ z, vs[j] = z := ⟨_, rfl⟩
            rw [hz] at r2
            have hxs : (vs.map vi)[j]? = some (.int .i64 z) := by rw [List.getElem?_map, List.getElem?_eq_getElem hjv, hz]; rfl
            obtain ⟨ga, rfl, -⟩ := g.sl_cell 1 at1 hxs
            have HR := Lib.hid (And.intro r1 (And.intro r2 (And.intro r3 (And.intro r4 (And.intro r5 r6)))))
            have HX := Lib.hid hxs
            have HR0 := Lib.hid r0
            have HL := Lib.hid (show l' = N - (j + 1) by omega)
            clear r0 r1 r2 r3 r4 r5 r6 hxs hz r8 hl2
            go_wp2_with (first | (go_at_call 30; (with_reducible refine (lread_as g 3 0 (by decide) at3 at0 hb2 HR.out).mono ?_); rintro e w1 ⟨rfl, g1⟩; simp only [set0, set3] at g1; have kc := g1.sl_at 1 at1 HX.out; clear g))
            go_roundg (N + 1 - (j + 1))
            case rel => exact ⟨j + 1, K', l', s', B', rfl, by go_num, by omega, HR0, ⟨r7, by have := HL.out; omega, by omega⟩, HL.out, g1⟩
            case measure => omega
          · obtain rfl : j = N := by omega
            obtain rfl : l2 = 0 := by omega
            have hBB : B2 = B := by
              have h1 := HQ2.out
              rw [List.take_of_length_le (by rw [← HN.out]; omega), HQ.out.1] at h1
              injection h1 with _ _ _ h1
              exact h1.symm
            subst hBB
            obtain ⟨Q, hQ⟩ : ∃ Q : Int, (B2.length : Int) = Q := ⟨_, rfl⟩
            have QQ := Lib.hid hQ
            have hb5 : K ≤ 6 ∧ 0 ≤ 16 ∧ (s = 0 ∨ s = 2) ∧ B2.length ≤ 2 ^ 39 := ⟨hK, by omega, HS2.out, by omega⟩
            clear hQ hl2 hj
            go_wp2_with (first | (go_at_call 30; (with_reducible refine (lread_as g 3 0 (by decide) at3 at0 hb2 (lread_zero _ _ _ _)).mono ?_); rintro e w1 ⟨rfl, g1⟩; simp only [set0, set3] at g1; clear g) | (go_at_call 15; (with_reducible refine (lput_as g1 4 2 (by decide) at4 at2 hb5 5 (by decide) (by decide) (lput_zero _ _ _ _)).mono ?_); rintro e w2 ⟨rfl, g2⟩; simp only [set2, set4] at g2; clear g1) | (go_at_call 32; (with_reducible refine (pos_eq g2 0 at0 QQ.out).mono ?_); rintro e w2 ⟨rfl, g3⟩; clear g2) | (go_at_call 17; (with_reducible refine (len_as g3 2 at2 hB41 QQ.out).mono ?_); rintro e w2 ⟨rfl, g4⟩; clear g3) | (go_at_call 10; (with_reducible refine (lknown_any g4).mono ?_); rintro e w1 ⟨rfl, g5⟩))
            exact bodyPost_ret (results_tmp rfl _ _ _) rfl ⟨rfl, g5.below⟩
  · by_cases hn : n ≤ 20
    · have hnd : decide ((20 : Int) < (n : Int)) = false := by simp; omega
      have htd : decide (100 < T.size) = true := by simp; omega
      go_enter Try.func7, Try.ntmps7
      go_wp2_with (first | (go_at_call 23; (with_reducible refine (pair_any t0 o0 b1 b2 b3 b4 _).mono ?_); rintro e w1 ⟨t, o, p1, p2, p3, p4, rfl, rfl⟩) | (go_at_call 10; (with_reducible refine (lknown_any hS).mono ?_); rintro e w1 ⟨rfl, g4⟩))
      exact bodyPost_ret (results_tmp rfl _ _ _) rfl ⟨rfl, g4.below⟩
    · have hnd : decide ((20 : Int) < (n : Int)) = true := by simp; omega
      go_enter Try.func7, Try.ntmps7
      go_wp2_with (first | (go_at_call 23; (with_reducible refine (pair_any t0 o0 b1 b2 b3 b4 _).mono ?_); rintro e w1 ⟨t, o, p1, p2, p3, p4, rfl, rfl⟩) | (go_at_call 10; (with_reducible refine (lknown_any hS).mono ?_); rintro e w1 ⟨rfl, g4⟩))
      exact bodyPost_ret (results_tmp rfl _ _ _) rfl ⟨rfl, g4.below⟩

end Go.Proofs.Ytmlkkeabgnhhnaa
