/- The reference's Read. -/
import Derived.Test.YtmlkkeabgnhhnaaLf
import Derived.Test.YtmlkkeabgnhhnaaLs
import Derived.Deep.LoopGhost
namespace Go.Proofs.Ytmlkkeabgnhhnaa
open Go.RowKit
set_option linter.unusedVariables false
set_option maxRecDepth 100000
set_option linter.unusedSimpArgs false

theorem qu_as3 {W w : World} {L : List AObj} {F : List (Nat × Obj)} {b : Nat} (h : Hp W w L F) (k : Nat) {s : ByteArray} {i : Nat} (hk : L[k]? = some (aQrd b s i)) (n : Int) {j v : Nat} {e0 : Int} (hx : uE s i n = e0 ∧ uI s i n = j ∧ uV s i n = v) :
    Calls Try.prog 53 #[.pointer (some ⟨b, 0, none⟩), .int .i64 n] w fun e w' => e = .returned (.tuple #[.int .u64 v, .int .i64 e0]) ∧ Hp W w' (L.set k (aQrd b s j)) F := by
  obtain ⟨rfl, rfl, rfl⟩ := hx
  exact qu_any h k hk n
theorem qbit_as {W w : World} {L : List AObj} {F : List (Nat × Obj)} {b : Nat} (h : Hp W w L F) (k : Nat) {s : ByteArray} {i : Nat} (hk : L[k]? = some (aQrd b s i)) {j v : Nat} {z e0 : Int} (hx : uE s i 1 = e0 ∧ uI s i 1 = j ∧ uV s i 1 = v ∧ (v : Int) = z) :
    Calls Try.prog 52 #[.pointer (some ⟨b, 0, none⟩)] w fun e w' => e = .returned (.tuple #[.int .u8 z, .int .i64 e0]) ∧ Hp W w' (L.set k (aQrd b s j)) F := by
  obtain ⟨rfl, rfl, rfl, rfl⟩ := hx
  exact qbit_any h k hk
theorem size_cases {K p N D X : Nat} {nI dI : Int} (hK : K ≤ 6) (hp : p ≤ 15) (hN : nS K p = N) (hD : bS K p = D) (hX : p * 2 ^ K = X) (hnI : (N : Int) = nI) (hdI : (D : Int) = dI) :
    (((p : Int) == 15) = true ∧ ((p : Int) == 14) = false ∧ ((K : Int) == 0) = true ∧ nI = 12 ∧ dI = 30) ∨
    (((p : Int) == 15) = true ∧ ((p : Int) == 14) = false ∧ ((K : Int) == 0) = false ∧ nI = 12 ∧ dI = (X : Int)) ∨
    (((p : Int) == 15) = false ∧ ((p : Int) == 14) = true ∧ ((K : Int) == 0) = true ∧ nI = 4 ∧ dI = (X : Int)) ∨
    (((p : Int) == 15) = false ∧ ((p : Int) == 14) = true ∧ ((K : Int) == 0) = false ∧ nI = (K : Int) ∧ dI = (X : Int)) ∨
    (((p : Int) == 15) = false ∧ ((p : Int) == 14) = false ∧ nI = (K : Int) ∧ dI = (X : Int)) := by
  subst hN hD hX hnI hdI
  have e15 : ∀ n : Nat, ((p : Int) == (n : Int)) = decide (p = n) := fun n => by rw [Bool.eq_iff_iff]; simp; omega
  have eK : ((K : Int) == 0) = decide (K = 0) := by rw [Bool.eq_iff_iff]; simp
  rw [show ((p : Int) == 15) = decide (p = 15) from e15 15, show ((p : Int) == 14) = decide (p = 14) from e15 14, eK]
  by_cases h15 : p = 15
  · by_cases h0 : K = 0
    · left; subst h15 h0; decide
    · right; left
      subst h15
      refine ⟨by simp, by simp, by simpa using h0, by unfold nS; simp, ?_⟩
      unfold bS esc; rw [if_pos rfl, if_neg h0]
  · by_cases h14 : p = 14
    · by_cases h0 : K = 0
      · right; right; left; subst h14 h0; decide
      · right; right; right; left
        subst h14
        refine ⟨by simp, by simp, by simpa using h0, ?_, ?_⟩
        · unfold nS; rw [if_neg (by decide), if_pos (by omega)]
        · unfold bS; rw [if_neg (by decide), if_pos (by omega)]
    · right; right; right; right
      refine ⟨by simpa using h15, by simpa using h14, ?_, ?_⟩
      · unfold nS; rw [if_neg h15]; by_cases h0 : K = 0
        · subst h0; simp [h14]
        · rw [if_pos (by omega)]
      · unfold bS; rw [if_neg h15]; by_cases h0 : K = 0
        · subst h0; simp
        · rw [if_pos (by omega)]

section
variable {W w : World} {L : List AObj} {F : List (Nat × Obj)} {b rb K l sk i k j : Nat} {s : ByteArray}
theorem qlread_same (hk : L[k]? = some (aQco b K l sk)) (hj : L[j]? = some (aQrd rb s i)) {x : Int} (he : lrE K l s i = x) (hx : x ≠ 0) :
    (L.set j (aQrd rb s (lrI K l s i))).set k (aQco b (lrK K l sk s i) (lrL K l s i) (lrS K l sk s i)) = L := by
  have e1 : lrI K l s i = i := if_neg (by rw [he]; exact hx)
  have e2 : lrK K l sk s i = K := if_neg (by rw [he]; exact hx)
  have e3 : lrL K l s i = l := if_neg (by rw [he]; exact hx)
  have e4 : lrS K l sk s i = sk := if_neg (by rw [he]; exact hx)
  rw [e1, e2, e3, e4, set_same hj, set_same hk]
theorem qfin_err (hk : L[k]? = some (aQco b K l sk)) (hj : L[j]? = some (aQrd rb s i)) {x : Int} (he : lrE K l s i = x) (hx : x ≠ 0) (g : Hp W w L F) :
    Ending.returned (.tuple #[.int .i64 0, .int .i64 x]) = Ending.returned (.tuple #[.int .i64 (lrV K l sk s i), .int .i64 (lrE K l s i)]) ∧ Hp W w ((L.set j (aQrd rb s (lrI K l s i))).set k (aQco b (lrK K l sk s i) (lrL K l s i) (lrS K l sk s i))) F := by
  have e1 : lrV K l sk s i = 0 := if_neg (by rw [he]; exact hx)
  rw [e1, qlread_same hk hj he hx, he]
  exact ⟨rfl, g⟩
theorem qfin_ok {p N q : Nat} {v : Int} (he : lrE K (l + 1) s i = 0) (hp : gL s i = p) (hN : nS K p = N) (hq : lrN K sk s i = q) (hv : lvl q = v)
    (g : Hp W w ((L.set j (aQrd rb s (i + p + 1 + N))).set k (aQco b (nxt K (q / 2 + 1)) l 0)) F) :
    Ending.returned (.tuple #[.int .i64 v, .int .i64 0]) = Ending.returned (.tuple #[.int .i64 (lrV K (l + 1) sk s i), .int .i64 (lrE K (l + 1) s i)]) ∧ Hp W w ((L.set j (aQrd rb s (lrI K (l + 1) s i))).set k (aQco b (lrK K (l + 1) sk s i) (lrL K (l + 1) s i) (lrS K (l + 1) sk s i))) F := by
  have e1 : lrV K (l + 1) sk s i = v := by unfold lrV; rw [if_pos he, hq, hv]
  have e2 : lrI K (l + 1) s i = i + p + 1 + N := by unfold lrI; rw [if_pos he, hp, hN]
  have e3 : lrK K (l + 1) sk s i = nxt K (q / 2 + 1) := by unfold lrK; rw [if_pos he, hq]
  have e4 : lrL K (l + 1) s i = l := by unfold lrL; rw [if_pos he]; omega
  have e5 : lrS K (l + 1) sk s i = 0 := if_pos he
  rw [e1, e2, e3, e4, e5, he]
  exact ⟨rfl, g⟩
theorem back_at {x : Nat} (hj : L[j]? = some (aQrd rb s i)) (hi : i ≤ 8 * s.size) (g : Hp W w (L.set j (aQrd rb s x)) F) : Hp W (w.setCell ⟨rb, 1, none⟩ (.int .i64 i)) L F := by
  have := g.qrd_set j (set_at hj _) 0 i hi
  rw [set_set, set_same hj] at this
  exact this
end

set_option maxHeartbeats 16000000 in
theorem qlread_any {W w : World} {L : List AObj} {F : List (Nat × Obj)} {b rb K l sk i : Nat} {s : ByteArray} (h : Hp W w L F) (k j : Nat) (hkj : k ≠ j) (hk : L[k]? = some (aQco b K l sk)) (hj : L[j]? = some (aQrd rb s i)) (hK : K ≤ 6) (hl : l ≤ 16) (hsk : sk ≤ 2) :
    Calls Try.prog 31 #[.pointer (some ⟨b, 0, none⟩), .pointer (some ⟨rb, 0, none⟩)] w fun e w' => e = .returned (.tuple #[.int .i64 (lrV K l sk s i), .int .i64 (lrE K l s i)]) ∧ Hp W w' ((L.set j (aQrd rb s (lrI K l s i))).set k (aQco b (lrK K l sk s i) (lrL K l s i) (lrS K l sk s i))) F := by
  have HJ := Lib.hid hj
  have HK := Lib.hid hk
  obtain ⟨c0, c1, c2, f0, f1, f2⟩ := aQco_cells h k hk
  obtain ⟨r1, hr2, hr3⟩ := h.qrd j hj
  obtain ⟨d0, d1, y0, y1⟩ := cells_two r1
  have H := Lib.hid h
  have HKJ := Lib.hid hkj
  clear hj hk h r1 hkj
  cases l with
  | zero =>
    go_enter Try.func31, Try.ntmps31
    go_wp2_with (fail)
    refine bodyPost_ret (results_tmp2 rfl _ _ _) rfl ?_
    exact qfin_err HK.out HJ.out (x := 8) rfl (by decide) H.out
  | succ l =>
    have hl16 : l ≤ 16 := by omega
    have hl0 : (((l : Int) + 1) == 0) = false := by simp; omega
    go_enter Try.func31, Try.ntmps31
    go_wp2_with (fail)
    clear c0 c1 c2 f0 f1 f2 d0 d1 y0 y1
    have HR3 := Lib.hid hr3
    go_loopg [7] 16 (fun g p' wr => ∃ p : Nat, g = 16 - p ∧ p' = .int .i64 p ∧ p ≤ 15 ∧ Hid (Zs s i p) ∧ Hp W wr (L.set j (aQrd rb s (i + p))) F)
    case atStart => exact ⟨0, rfl, rfl, by omega, Lib.hid (Zs.zero s i), by rw [Nat.add_zero, set_same HJ.out]; exact H.out⟩
    case round =>
      obtain ⟨p, rfl, rfl, hp, HZ, g⟩ := hrel
      by_cases hE1 : uE s (i + p) 1 = 0
      · have hI : uI s (i + p) 1 = i + p + 1 := by unfold uI; rw [if_pos hE1]; rfl
        have hV1 := uV_one (s := s) (i := i + p)
        by_cases hV : uV s (i + p) 1 = 0
        · have B1 := Lib.hid (And.intro hE1 (And.intro hI (And.intro hV (rfl : ((0 : Nat) : Int) = 0))))
          have HZ1 := Lib.hid (HZ.out.next hE1 hV)
          clear hE1 hI hV hV1
          by_cases hp15 : p = 15
          · subst hp15
            have HE : Hid (lrE K (l + 1) s i = 4) := Lib.hid (by unfold lrE; rw [if_neg (by omega), if_pos (gL_full HZ1.out)])
            go_wp2_with (first | (go_at_call 52; (with_reducible refine (qbit_as g j (set_at HJ.out _) B1.out).mono ?_); rintro e w1 ⟨rfl, g1⟩; rw [set_set] at g1; obtain ⟨z1, -, -⟩ := g1.qrd j (set_at HJ.out _); obtain ⟨zc0, zc, zf0, zf⟩ := cells_two z1; clear z1 g))
            refine bodyPost_ret (results_tmp2 rfl _ _ _) rfl ?_
            exact qfin_err HK.out HJ.out HE.out (by decide) (back_at HJ.out HR3.out g1)
          · go_wp2_with (first | (go_at_call 52; (with_reducible refine (qbit_as g j (set_at HJ.out _) B1.out).mono ?_); rintro e w1 ⟨rfl, g1⟩; rw [set_set] at g1; obtain ⟨z1, -, -⟩ := g1.qrd j (set_at HJ.out _); obtain ⟨zc0, zc, zf0, zf⟩ := cells_two z1; clear z1 g))
            go_roundg (16 - (p + 1))
            case rel => exact ⟨p + 1, rfl, by go_num, by omega, HZ1, g1⟩
            case measure => omega
        · have hV' : uV s (i + p) 1 = 1 := by omega
          have B1 := Lib.hid (And.intro hE1 (And.intro hI (And.intro hV' (rfl : ((1 : Nat) : Int) = 1))))
          have HP := Lib.hid (gL_stop HZ.out hp (fun h => hV h.2))
          obtain ⟨N, hN⟩ : ∃ N, nS K p = N := ⟨_, rfl⟩
          obtain ⟨D, hD⟩ : ∃ D, bS K p = D := ⟨_, rfl⟩
          have hN12 : N ≤ 12 := hN ▸ nS_le hK
          have hD96 : D ≤ 960 := hD ▸ bS_le hK hp
          obtain ⟨v2, hv2⟩ : ∃ v, uV s (i + p + 1) (N : Int) = v := ⟨_, rfl⟩
          have hv4 : v2 < 4096 := hv2 ▸ uV_lt s _ hN12
          have HR : lrE K (l + 1) s i = uE s (i + p + 1) (N : Int) := by unfold lrE; rw [if_neg (by omega), HP.out, if_neg (by omega), if_neg (fun h => h hE1), hN]
          have HKa : ∀ x, Hid ((L.set j (aQrd rb s x))[k]? = some (aQco b K (l + 1) sk)) := fun x => Lib.hid (by rw [List.getElem?_set_ne (fun h => HKJ.out h.symm)]; exact HK.out)
          have HN0 := Lib.hid hN
          obtain ⟨nI, hnI⟩ : ∃ n : Int, (N : Int) = n := ⟨_, rfl⟩
          obtain ⟨dI, hdI⟩ : ∃ d : Int, (D : Int) = d := ⟨_, rfl⟩
          have hSh : ∃ X : Nat, p * 2 ^ K = X ∧ X ≤ 960 := ⟨_, rfl, Nat.le_trans (Nat.mul_le_mul hp (Nat.pow_le_pow_right (by decide) hK)) (by decide)⟩
          obtain ⟨X, hX, hX9⟩ := hSh
          have hsh : IntKind.i64.wrap ((p : Int) * 2 ^ K) = (X : Int) := by
            rw [← hX]
            have h1 : ((p * 2 ^ K : Nat) : Int) = (p : Int) * 2 ^ K := by simp
            rw [← h1]
            exact IntWalk.i64_in _ (by omega)
          have C := size_cases (K := K) (p := p) hK hp hN hD hX hnI hdI
          by_cases hE2 : uE s (i + p + 1) (N : Int) = 0
          · rw [hE2] at HR
            have HE := Lib.hid HR
            have hI2 : uI s (i + p + 1) (N : Int) = i + p + 1 + N := by unfold uI; rw [if_pos hE2]; simp
            obtain ⟨q, hq⟩ : ∃ q, lrN K sk s i = q := ⟨_, rfl⟩
            have hqe : D + v2 + sk = q := by rw [← hq]; unfold lrN; rw [HP.out, hN, hD, hv2]
            have hqi : dI + (v2 : Int) + (sk : Int) = (q : Int) := by omega
            have hq0 := Lib.hid hq
            have hq6 : q ≤ 6000 := by omega
            rw [hnI] at hE2 hI2 hv2
            have U1 := Lib.hid (And.intro hE2 (And.intro hI2 hv2))
            clear hE1 hI hV hV' hV1 hE2 hI2 hv2 hq hqe HR hN hD hnI hdI hX
            by_cases hpar : q % 2 = 1
            · have t1 : ((q : Int) % 2 == 1) = true := by simp; omega
              have HNA := Lib.hid (show (-((q : Int) / 2 + 1)).natAbs = q / 2 + 1 by omega)
              have HV := Lib.hid (show lvl q = -((q : Int) / 2 + 1) by unfold lvl; rw [if_pos (by omega)]; omega)
              rcases C with ⟨a1, a2, a3, rfl, rfl⟩ | ⟨a1, a2, a3, rfl, rfl⟩ | ⟨a1, a2, a3, rfl, rfl⟩ | ⟨a1, a2, a3, rfl, rfl⟩ | ⟨a1, a2, rfl, rfl⟩
              all_goals
                go_wp2_with (first | (go_at_call 52; (with_reducible refine (qbit_as g j (set_at HJ.out _) B1.out).mono ?_); rintro e w1 ⟨rfl, g1⟩; rw [set_set] at g1; obtain ⟨k0, k1, k2, -, -, -⟩ := aQco_cells g1 k (HKa _).out; clear g) | (go_at_call 53; (with_reducible refine (qu_as3 g1 j (set_at HJ.out _) _ U1.out).mono ?_); rintro e w2 ⟨rfl, g2⟩; rw [set_set] at g2; obtain ⟨m0, m1, m2, -, -, -⟩ := aQco_cells g2 k (HKa _).out; obtain ⟨z1, -, -⟩ := g2.qrd j (set_at HJ.out _); obtain ⟨zc0, zc, zf0, zf⟩ := cells_two z1; clear z1 g1) | (go_at_call 48; (with_reducible refine (qafter_any g2 k (HKa _).out hK _ (by omega) hl16).mono ?_); rintro e w3 ⟨rfl, g3⟩; clear g2; rw [HNA.out] at g3))
                refine bodyPost_ret (results_tmp2 rfl _ _ _) rfl ?_
                exact qfin_ok HE.out HP.out HN0.out hq0.out HV.out g3
            · have t1 : ((q : Int) % 2 == 1) = false := by simp; omega
              have HNA := Lib.hid (show ((q : Int) / 2 + 1).natAbs = q / 2 + 1 by omega)
              have HV := Lib.hid (show lvl q = (q : Int) / 2 + 1 by unfold lvl; rw [if_neg (by omega)]; omega)
              rcases C with ⟨a1, a2, a3, rfl, rfl⟩ | ⟨a1, a2, a3, rfl, rfl⟩ | ⟨a1, a2, a3, rfl, rfl⟩ | ⟨a1, a2, a3, rfl, rfl⟩ | ⟨a1, a2, rfl, rfl⟩
              all_goals
                go_wp2_with (first | (go_at_call 52; (with_reducible refine (qbit_as g j (set_at HJ.out _) B1.out).mono ?_); rintro e w1 ⟨rfl, g1⟩; rw [set_set] at g1; obtain ⟨k0, k1, k2, -, -, -⟩ := aQco_cells g1 k (HKa _).out; clear g) | (go_at_call 53; (with_reducible refine (qu_as3 g1 j (set_at HJ.out _) _ U1.out).mono ?_); rintro e w2 ⟨rfl, g2⟩; rw [set_set] at g2; obtain ⟨m0, m1, m2, -, -, -⟩ := aQco_cells g2 k (HKa _).out; obtain ⟨z1, -, -⟩ := g2.qrd j (set_at HJ.out _); obtain ⟨zc0, zc, zf0, zf⟩ := cells_two z1; clear z1 g1) | (go_at_call 48; (with_reducible refine (qafter_any g2 k (HKa _).out hK _ (by omega) hl16).mono ?_); rintro e w3 ⟨rfl, g3⟩; clear g2; rw [HNA.out] at g3))
                refine bodyPost_ret (results_tmp2 rfl _ _ _) rfl ?_
                exact qfin_ok HE.out HP.out HN0.out hq0.out HV.out g3
          · have hE5 : uE s (i + p + 1) (N : Int) = 5 := by
              have := uE_nat (s := s) (i := i + p + 1) (n := N) (by omega)
              rw [this] at hE2 ⊢
              split at hE2 <;> simp_all
            rw [hE5] at HR
            have HE := Lib.hid HR
            obtain ⟨j1, hj1⟩ : ∃ j, uI s (i + p + 1) (N : Int) = j := ⟨_, rfl⟩
            rw [hnI] at hE5 hj1 hv2
            have U1 := Lib.hid (And.intro hE5 (And.intro hj1 hv2))
            clear hE1 hI hV hV' hV1 hE2 hE5 hj1 hv2 HR hN hD hnI hdI hX
            rcases C with ⟨a1, a2, a3, rfl, rfl⟩ | ⟨a1, a2, a3, rfl, rfl⟩ | ⟨a1, a2, a3, rfl, rfl⟩ | ⟨a1, a2, a3, rfl, rfl⟩ | ⟨a1, a2, rfl, rfl⟩
            all_goals
              go_wp2_with (first | (go_at_call 52; (with_reducible refine (qbit_as g j (set_at HJ.out _) B1.out).mono ?_); rintro e w1 ⟨rfl, g1⟩; rw [set_set] at g1; obtain ⟨k0, k1, k2, -, -, -⟩ := aQco_cells g1 k (HKa _).out; clear g) | (go_at_call 53; (with_reducible refine (qu_as3 g1 j (set_at HJ.out _) _ U1.out).mono ?_); rintro e w2 ⟨rfl, g2⟩; rw [set_set] at g2; obtain ⟨m0, m1, m2, -, -, -⟩ := aQco_cells g2 k (HKa _).out; obtain ⟨z1, -, -⟩ := g2.qrd j (set_at HJ.out _); obtain ⟨zc0, zc, zf0, zf⟩ := cells_two z1; clear z1 g1))
              refine bodyPost_ret (results_tmp2 rfl _ _ _) rfl ?_
              exact qfin_err HK.out HJ.out HE.out (by decide) (back_at HJ.out HR3.out g2)
      · have hE5 := uE_one5 hE1
        have HE : Hid (lrE K (l + 1) s i = 5) := Lib.hid (by
          have hP := gL_stop HZ.out hp (fun h => hE1 h.1)
          unfold lrE; rw [if_neg (by omega), hP, if_neg (by omega), if_pos hE1])
        obtain ⟨j1, hj1⟩ : ∃ j, uI s (i + p) 1 = j := ⟨_, rfl⟩
        obtain ⟨v1, hv1⟩ : ∃ v, uV s (i + p) 1 = v := ⟨_, rfl⟩
        obtain ⟨u1, hv1'⟩ : ∃ u : Int, (v1 : Int) = u := ⟨_, rfl⟩
        have B1 := Lib.hid (And.intro hE5 (And.intro hj1 (And.intro hv1 hv1')))
        clear hE1 hE5 hj1 hv1 hv1'
        go_wp2_with (first | (go_at_call 52; (with_reducible refine (qbit_as g j (set_at HJ.out _) B1.out).mono ?_); rintro e w1 ⟨rfl, g1⟩; rw [set_set] at g1; obtain ⟨z1, -, -⟩ := g1.qrd j (set_at HJ.out _); obtain ⟨zc0, zc, zf0, zf⟩ := cells_two z1; clear z1 g))
        refine bodyPost_ret (results_tmp2 rfl _ _ _) rfl ?_
        exact qfin_err HK.out HJ.out HE.out (by decide) (back_at HJ.out HR3.out g1)

theorem qlread_as {W w : World} {L : List AObj} {F : List (Nat × Obj)} {b rb K l sk i : Nat} {s : ByteArray} (h : Hp W w L F) (k j : Nat) (hkj : k ≠ j) (hk : L[k]? = some (aQco b K l sk)) (hj : L[j]? = some (aQrd rb s i)) (hb : K ≤ 6 ∧ l ≤ 16 ∧ sk ≤ 2)
    {e0 z : Int} {i' K' l' s' : Nat} (hx : lrE K l s i = e0 ∧ lrV K l sk s i = z ∧ lrI K l s i = i' ∧ lrK K l sk s i = K' ∧ lrL K l s i = l' ∧ lrS K l sk s i = s') :
    Calls Try.prog 31 #[.pointer (some ⟨b, 0, none⟩), .pointer (some ⟨rb, 0, none⟩)] w fun e w' => e = .returned (.tuple #[.int .i64 z, .int .i64 e0]) ∧ Hp W w' ((L.set j (aQrd rb s i')).set k (aQco b K' l' s')) F := by
  obtain ⟨rfl, rfl, rfl, rfl, rfl, rfl⟩ := hx
  exact qlread_any h k j hkj hk hj hb.1 hb.2.1 hb.2.2

end Go.Proofs.Ytmlkkeabgnhhnaa
