/- The program's Read, whole. -/
import Derived.Test.YtmlkkeabgnhhnaaLr
import Derived.Deep.LoopGhost
namespace Go.Proofs.Ytmlkkeabgnhhnaa
open Go.RowKit
set_option linter.unusedVariables false
set_option maxRecDepth 100000
set_option linter.unusedSimpArgs false

theorem uV_lt (s : ByteArray) (i : Nat) {n : Nat} (hn : n ≤ 12) : uV s i (n : Int) < 4096 := by
  unfold uV
  split
  · have h := natB_lt (seg (sbits s) i (n : Int).toNat)
    have hl : (seg (sbits s) i (n : Int).toNat).length ≤ n := by unfold seg; simp; omega
    have h2 : 2 ^ (seg (sbits s) i (n : Int).toNat).length ≤ 2 ^ 12 := Nat.pow_le_pow_right (by omega) (by omega)
    omega
  · omega
theorem uV_one {s : ByteArray} {i : Nat} : uV s i 1 ≤ 1 := by
  unfold uV
  split
  · exact seg_one s i
  · omega
theorem nS_le {K P : Nat} (hK : K ≤ 6) : nS K P ≤ 12 := by unfold nS; (repeat' split) <;> omega
theorem bS_le {K P : Nat} (hK : K ≤ 6) (hP : P ≤ 15) : bS K P ≤ 960 := by
  unfold bS
  have h := (esc_le K hK).2
  have h6 : 2 ^ K ≤ 2 ^ 6 := Nat.pow_le_pow_right (by omega) hK
  (repeat' split)
  · exact h
  · exact Nat.le_trans (Nat.mul_le_mul hP h6) (by decide)
  · omega
theorem u_as3 {W w : World} {L : List AObj} {F : List (Nat × Obj)} {b : Nat} (h : Hp W w L F) (k : Nat) {s : ByteArray} {i : Nat} (hk : L[k]? = some (aRd b s i)) (n : Int) {j v : Nat} {e0 : Int} (hx : uE s i n = e0 ∧ uI s i n = j ∧ uV s i n = v) :
    Calls Try.prog 51 #[.pointer (some ⟨b, 0, none⟩), .int .i64 n] w fun e w' => e = .returned (.tuple #[.int .u64 v, .int .i64 e0]) ∧ Hp W w' (L.set k (aRd b s j)) F := by
  obtain ⟨rfl, rfl, rfl⟩ := hx
  exact u_any h k hk n
theorem pre_cell {W w : World} {L : List AObj} {F : List (Nat × Obj)} {x : Nat} {v : Value} {t : TypeId} (h : Hp W w L ((x, .cells #[v] t (0, 0)) :: F)) : w.cell? ⟨x, 0, none⟩ = some v ∧ w.frozen? ⟨x, 0, none⟩ = false := by
  have := h.blk (List.mem_cons_self ..)
  simp [World.cell?, World.frozen?, this]
theorem cons_at {y x : AObj} {L : List AObj} {k : Nat} (h : L[k]? = some x) : (y :: L)[k + 1]? = some x := by simpa using h
theorem gL_stop {s : ByteArray} {i p : Nat} (hz : Zs s i p) (hp : p ≤ 15) (h : ¬ (uE s (i + p) 1 = 0 ∧ uV s (i + p) 1 = 0)) : gL s i = p := by
  unfold gL
  rw [zr_of hz (by omega)]
  obtain ⟨d, hd⟩ : ∃ d, 16 - p = d + 1 := ⟨15 - p, by omega⟩
  rw [hd, zr_succ, if_neg h]
  omega
theorem gL_full {s : ByteArray} {i : Nat} (hz : Zs s i 16) : gL s i = 16 := by
  unfold gL; rw [zr_of hz (Nat.le_refl _)]; simp [zr]

section
variable {W w : World} {L : List AObj} {F : List (Nat × Obj)} {b rb K l sk i k j : Nat} {s : ByteArray}
theorem lread_same (hk : L[k]? = some (aCo b K l sk)) (hj : L[j]? = some (aRd rb s i)) {x : Int} (he : lrE K l s i = x) (hx : x ≠ 0) :
    (L.set j (aRd rb s (lrI K l s i))).set k (aCo b (lrK K l sk s i) (lrL K l s i) (lrS K l sk s i)) = L := by
  have e1 : lrI K l s i = i := if_neg (by rw [he]; exact hx)
  have e2 : lrK K l sk s i = K := if_neg (by rw [he]; exact hx)
  have e3 : lrL K l s i = l := if_neg (by rw [he]; exact hx)
  have e4 : lrS K l sk s i = sk := if_neg (by rw [he]; exact hx)
  rw [e1, e2, e3, e4, set_same hj, set_same hk]
theorem fin_err (hk : L[k]? = some (aCo b K l sk)) (hj : L[j]? = some (aRd rb s i)) {x : Int} (he : lrE K l s i = x) (hx : x ≠ 0) (g : Hp W w L F) :
    Ending.returned (.tuple #[.int .i64 0, .int .i64 x]) = Ending.returned (.tuple #[.int .i64 (lrV K l sk s i), .int .i64 (lrE K l s i)]) ∧ Hp W w ((L.set j (aRd rb s (lrI K l s i))).set k (aCo b (lrK K l sk s i) (lrL K l s i) (lrS K l sk s i))) F := by
  have e1 : lrV K l sk s i = 0 := if_neg (by rw [he]; exact hx)
  rw [e1, lread_same hk hj he hx, he]
  exact ⟨rfl, g⟩
theorem fin_ok {p N q : Nat} {v : Int} (he : lrE K (l + 1) s i = 0) (hp : gL s i = p) (hN : nS K p = N) (hq : lrN K sk s i = q) (hv : lvl q = v)
    (g : Hp W w ((L.set j (aRd rb s (i + p + 1 + N))).set k (aCo b (nxt K (q / 2 + 1)) l 0)) F) :
    Ending.returned (.tuple #[.int .i64 v, .int .i64 0]) = Ending.returned (.tuple #[.int .i64 (lrV K (l + 1) sk s i), .int .i64 (lrE K (l + 1) s i)]) ∧ Hp W w ((L.set j (aRd rb s (lrI K (l + 1) s i))).set k (aCo b (lrK K (l + 1) sk s i) (lrL K (l + 1) s i) (lrS K (l + 1) sk s i))) F := by
  have e1 : lrV K (l + 1) sk s i = v := by unfold lrV; rw [if_pos he, hq, hv]
  have e2 : lrI K (l + 1) s i = i + p + 1 + N := by unfold lrI; rw [if_pos he, hp, hN]
  have e3 : lrK K (l + 1) sk s i = nxt K (q / 2 + 1) := by unfold lrK; rw [if_pos he, hq]
  have e4 : lrL K (l + 1) s i = l := by unfold lrL; rw [if_pos he]; omega
  have e5 : lrS K (l + 1) sk s i = 0 := if_pos he
  rw [e1, e2, e3, e4, e5, he]
  exact ⟨rfl, g⟩
end

set_option maxHeartbeats 8000000 in
theorem lread_any {W w : World} {L : List AObj} {F : List (Nat × Obj)} {b rb K l sk i : Nat} {s : ByteArray} (h : Hp W w L F) (k j : Nat) (hkj : k ≠ j) (hk : L[k]? = some (aCo b K l sk)) (hj : L[j]? = some (aRd rb s i)) (hK : K ≤ 6) (hl : l ≤ 16) (hsk : sk ≤ 2) :
    Calls Try.prog 30 #[.pointer (some ⟨b, 0, none⟩), .pointer (some ⟨rb, 0, none⟩)] w fun e w' => e = .returned (.tuple #[.int .i64 (lrV K l sk s i), .int .i64 (lrE K l s i)]) ∧ Hp W w' ((L.set j (aRd rb s (lrI K l s i))).set k (aCo b (lrK K l sk s i) (lrL K l s i) (lrS K l sk s i))) F := by
  have HJ := Lib.hid hj
  have HK := Lib.hid hk
  have hb := h.alloc (.cells #[.pointer (some ⟨b, 0, none⟩)] 24 (0, 0))
  obtain ⟨c0, c1, c2, f0, f1, f2⟩ := aCo_cells hb k hk
  have H := Lib.hid h
  have HB := Lib.hid hb
  clear hj hk h hb
  cases l with
  | zero =>
    have hE := Lib.hid (rfl : lrE K 0 s i = 8)
    go_enter Try.func30, Try.ntmps30
    go_wp2_with (fail)
    refine bodyPost_ret (results_tmp2 rfl _ _ _) rfl ?_
    exact fin_err HK.out HJ.out (x := 8) rfl (by decide) (H.out.lost _)
  | succ l =>
    have hl16 : l ≤ 16 := by omega
    have hl0 : (((l : Int) + 1) == 0) = false := by simp; omega
    go_enter Try.func30, Try.ntmps30
    go_wp2_with (first | (go_at_call 35; (with_reducible refine (copy_any HB.out j HJ.out).mono ?_); rintro e w1 ⟨xb, rfl, h1⟩))
    have h2 := h1.alloc (.cells #[.int .i64 0] 3 (0, 0))
    have H2 := Lib.hid h2
    clear h1 h2 c0 c1 c2 f0 f1 f2
    generalize w1.heap.size = x2 at *
    go_loopg [8] 16 (fun g _ wr => ∃ p : Nat, g = 16 - p ∧ p ≤ 15 ∧ Hid (Zs s i p) ∧ Hp W wr (aRd xb s (i + p) :: L) ((x2, .cells #[.int .i64 p] 3 (0, 0)) :: (w.heap.size, .cells #[.pointer (some ⟨b, 0, none⟩)] 24 (0, 0)) :: F))
    case atStart => exact ⟨0, rfl, by omega, Lib.hid (Zs.zero s i), H2.out⟩
    case round =>
      obtain ⟨p, rfl, hp, HZ, g⟩ := hrel
      obtain ⟨pc, pf⟩ := pre_cell g
      have cp := cell_in g (.tail _ (.head _)) (c := 0) rfl
      by_cases hE1 : uE s (i + p) 1 = 0
      · have hI : uI s (i + p) 1 = i + p + 1 := by unfold uI; rw [if_pos hE1]; rfl
        have hV1 := uV_one (s := s) (i := i + p)
        by_cases hV : uV s (i + p) 1 = 0
        · have B1 := Lib.hid (And.intro hE1 (And.intro hI (And.intro hV (rfl : ((0 : Nat) : Int) = 0))))
          have HZ1 := Lib.hid (HZ.out.next hE1 hV)
          clear hE1 hI hV hV1
          by_cases hp15 : p = 15
          · subst hp15
            have HE : Hid (lrE K (l + 1) s i = 4) := Lib.hid (by unfold lrE; rw [if_neg (by omega), if_pos (gL_full HZ1.out)])
            go_wp2_with (first | (go_at_call 36; (with_reducible refine (bit_as g 0 at0 B1.out).mono ?_); rintro e w1 ⟨rfl, g1⟩; simp only [set0] at g1; obtain ⟨pc1, pf1⟩ := pre_cell g1; clear g))
            have g2 := (g1.set 0 rfl 0 (.int .i64 16)).drop.drop.tail
            refine bodyPost_ret (results_tmp2 rfl _ _ _) rfl ?_
            exact fin_err HK.out HJ.out HE.out (by decide) g2
          · go_wp2_with (first | (go_at_call 36; (with_reducible refine (bit_as g 0 at0 B1.out).mono ?_); rintro e w1 ⟨rfl, g1⟩; simp only [set0] at g1; obtain ⟨pc1, pf1⟩ := pre_cell g1; clear g))
            have g2 := g1.set 0 rfl 0 (.int .i64 ((p : Int) + 1))
            go_roundg (16 - (p + 1))
            case rel => exact ⟨p + 1, rfl, by omega, HZ1, g2⟩
            case measure => omega
        · have hV' : uV s (i + p) 1 = 1 := by omega
          have B1 := Lib.hid (And.intro hE1 (And.intro hI (And.intro hV' (rfl : ((1 : Nat) : Int) = 1))))
          have HP := Lib.hid (gL_stop HZ.out hp (fun h => hV h.2))
          obtain ⟨N, hN⟩ : ∃ N, nS K p = N := ⟨_, rfl⟩
          obtain ⟨D, hD⟩ : ∃ D, bS K p = D := ⟨_, rfl⟩
          have hN12 : N ≤ 12 := hN ▸ nS_le hK
          have hD96 : D ≤ 960 := hD ▸ bS_le hK hp
          obtain ⟨v2, hv2⟩ : ∃ v, uV s (i + p + 1) (N : Int) = v := ⟨_, rfl⟩
          have hv4 : v2 < 4096 := hv2 ▸ uV_lt s _ hN12
          have HR : lrE K (l + 1) s i = uE s (i + p + 1) (N : Int) := by unfold lrE; rw [if_neg (by omega), HP.out, if_neg (by omega), if_neg (fun h => h hE1), hN]
          by_cases hE2 : uE s (i + p + 1) (N : Int) = 0
          · rw [hE2] at HR
            have HE := Lib.hid HR
            have hI2 : uI s (i + p + 1) (N : Int) = i + p + 1 + N := by unfold uI; rw [if_pos hE2]; simp
            have U1 := Lib.hid (And.intro hE2 (And.intro hI2 hv2))
            obtain ⟨v3, hv3⟩ : ∃ v, uV s i ((p : Int) + 1 + (N : Int)) = v := ⟨_, rfl⟩
            have hlen : i + p + 1 + N ≤ 8 * s.size := by
              have := uE_nat (s := s) (i := i + p + 1) (n := N) (by omega)
              rw [hE2] at this
              have h1 := uE_one.1 hE1
              split at this <;> omega
            have hE3 : uE s i ((p : Int) + 1 + (N : Int)) = 0 := by
              rw [show (p : Int) + 1 + (N : Int) = ((p + 1 + N : Nat) : Int) by omega, uE_nat (by omega), if_neg (by omega)]
            have hI3 : uI s i ((p : Int) + 1 + (N : Int)) = i + p + 1 + N := by unfold uI; rw [if_pos hE3]; omega
            have U2 := Lib.hid (And.intro hE3 (And.intro hI3 hv3))
            obtain ⟨q, hq⟩ : ∃ q, lrN K sk s i = q := ⟨_, rfl⟩
            have hqe : D + v2 + sk = q := by rw [← hq]; unfold lrN; rw [HP.out, hN, hD, hv2]
            have hqi : (D : Int) + (v2 : Int) + (sk : Int) = (q : Int) := by omega
            have hN0 := Lib.hid hN
            have hq0 := Lib.hid hq
            have HK1 := Lib.hid (cons_at (y := aRd xb s (i + p + 1)) HK.out)
            have HK2 := Lib.hid (cons_at (y := aRd xb s (i + p + 1 + N)) HK.out)
            have HJ2 := Lib.hid (cons_at (y := aRd xb s (i + p + 1 + N)) HJ.out)
            have HK3 := Lib.hid (show ((aRd xb s (i + p + 1 + N) :: L).set (j + 1) (aRd rb s (i + p + 1 + N)))[k + 1]? = some (aCo b K (l + 1) sk) by rw [List.getElem?_set_ne (by omega)]; exact HK2.out)
            have hq6 : q ≤ 6000 := by omega
            clear hE1 hI hV hV' hV1 hE2 hI2 hv2 hv3 hE3 hI3 hq hqe HR hlen
            by_cases hpar : q % 2 = 1
            · have t1 : ((q : Int) % 2 == 1) = true := by simp; omega
              have HN := Lib.hid (show (-((q : Int) / 2 + 1)).natAbs = q / 2 + 1 by omega)
              have HV := Lib.hid (show lvl q = -((q : Int) / 2 + 1) by unfold lvl; rw [if_pos (by omega)]; omega)
              go_wp2_with (first | (go_at_call 36; (with_reducible refine (bit_as g 0 at0 B1.out).mono ?_); rintro e w1 ⟨rfl, g1⟩; simp only [set0] at g1; obtain ⟨pc1, pf1⟩ := pre_cell g1; clear g) | (go_at_call 49; (with_reducible refine (rd1_any g1 (k + 1) HK1.out hK hp (List.mem_cons_self ..) (List.mem_cons_of_mem _ (List.mem_cons_self ..))).mono ?_); rintro e w2 ⟨rfl, n2, rfl⟩) | (go_at_call 51; (with_reducible refine (u_as3 (g1.drewN n2) 0 at0 _ U1.out).mono ?_); rintro e w3 ⟨rfl, g2⟩; simp only [set0] at g2; obtain ⟨d0, d1, d2, y0, y1, y2⟩ := aCo_cells g2 (k + 1) HK2.out; obtain ⟨pc2, pf2⟩ := pre_cell g2; have cp2 := cell_in g2 (.tail _ (.head _)) (c := 0) rfl; clear g1) | (go_at_call 51; (with_reducible refine (u_as3 g2 (j + 1) HJ2.out _ U2.out).mono ?_); rintro e w4 ⟨rfl, g3⟩; have cp3 := cell_in g3 (.tail _ (.head _)) (c := 0) rfl; clear g2) | (go_at_call 43; (with_reducible refine (next_any g3 (k + 1) HK3.out hK _ (by omega) hl16).mono ?_); rintro e w5 ⟨rfl, g4⟩; clear g3; rw [HN.out] at g4))
              refine bodyPost_ret (results_tmp2 rfl _ _ _) rfl ?_
              refine fin_ok HE.out HP.out hN0.out hq0.out HV.out ?_
              have := g4.drop.drop
              exact this.tail
            · have t1 : ((q : Int) % 2 == 1) = false := by simp; omega
              have HN := Lib.hid (show ((q : Int) / 2 + 1).natAbs = q / 2 + 1 by omega)
              have HV := Lib.hid (show lvl q = (q : Int) / 2 + 1 by unfold lvl; rw [if_neg (by omega)]; omega)
              go_wp2_with (first | (go_at_call 36; (with_reducible refine (bit_as g 0 at0 B1.out).mono ?_); rintro e w1 ⟨rfl, g1⟩; simp only [set0] at g1; obtain ⟨pc1, pf1⟩ := pre_cell g1; clear g) | (go_at_call 49; (with_reducible refine (rd1_any g1 (k + 1) HK1.out hK hp (List.mem_cons_self ..) (List.mem_cons_of_mem _ (List.mem_cons_self ..))).mono ?_); rintro e w2 ⟨rfl, n2, rfl⟩) | (go_at_call 51; (with_reducible refine (u_as3 (g1.drewN n2) 0 at0 _ U1.out).mono ?_); rintro e w3 ⟨rfl, g2⟩; simp only [set0] at g2; obtain ⟨d0, d1, d2, y0, y1, y2⟩ := aCo_cells g2 (k + 1) HK2.out; obtain ⟨pc2, pf2⟩ := pre_cell g2; have cp2 := cell_in g2 (.tail _ (.head _)) (c := 0) rfl; clear g1) | (go_at_call 51; (with_reducible refine (u_as3 g2 (j + 1) HJ2.out _ U2.out).mono ?_); rintro e w4 ⟨rfl, g3⟩; have cp3 := cell_in g3 (.tail _ (.head _)) (c := 0) rfl; clear g2) | (go_at_call 43; (with_reducible refine (next_any g3 (k + 1) HK3.out hK _ (by omega) hl16).mono ?_); rintro e w5 ⟨rfl, g4⟩; clear g3; rw [HN.out] at g4))
              refine bodyPost_ret (results_tmp2 rfl _ _ _) rfl ?_
              refine fin_ok HE.out HP.out hN0.out hq0.out HV.out ?_
              have := g4.drop.drop
              exact this.tail
          · have hE5 : uE s (i + p + 1) (N : Int) = 5 := by
              have := uE_nat (s := s) (i := i + p + 1) (n := N) (by omega)
              rw [this] at hE2 ⊢
              split at hE2 <;> simp_all
            rw [hE5] at HR
            have HE := Lib.hid HR
            obtain ⟨j1, hj1⟩ : ∃ j, uI s (i + p + 1) (N : Int) = j := ⟨_, rfl⟩
            have U1 := Lib.hid (And.intro hE5 (And.intro hj1 hv2))
            have HK1 := Lib.hid (cons_at (y := aRd xb s (i + p + 1)) HK.out)
            have HK2 := Lib.hid (cons_at (y := aRd xb s j1) HK.out)
            clear hE1 hI hV hV' hV1 hE2 hE5 hj1 hv2 HR
            go_wp2_with (first | (go_at_call 36; (with_reducible refine (bit_as g 0 at0 B1.out).mono ?_); rintro e w1 ⟨rfl, g1⟩; simp only [set0] at g1; obtain ⟨pc1, pf1⟩ := pre_cell g1; clear g) | (go_at_call 49; (with_reducible refine (rd1_any g1 (k + 1) HK1.out hK hp (List.mem_cons_self ..) (List.mem_cons_of_mem _ (List.mem_cons_self ..))).mono ?_); rintro e w2 ⟨rfl, n2, rfl⟩) | (go_at_call 51; (with_reducible refine (u_as3 (g1.drewN n2) 0 at0 _ U1.out).mono ?_); rintro e w3 ⟨rfl, g2⟩; simp only [set0] at g2; obtain ⟨d0, d1, d2, y0, y1, y2⟩ := aCo_cells g2 (k + 1) HK2.out; obtain ⟨pc2, pf2⟩ := pre_cell g2; have cp2 := cell_in g2 (.tail _ (.head _)) (c := 0) rfl; clear g1))
            refine bodyPost_ret (results_tmp2 rfl _ _ _) rfl ?_
            exact fin_err HK.out HJ.out HE.out (by decide) g2.drop.drop.tail
      · have hE5 := uE_one5 hE1
        have HE : Hid (lrE K (l + 1) s i = 5) := Lib.hid (by
          have hP := gL_stop HZ.out hp (fun h => hE1 h.1)
          unfold lrE; rw [if_neg (by omega), hP, if_neg (by omega), if_pos hE1])
        obtain ⟨j1, hj1⟩ : ∃ j, uI s (i + p) 1 = j := ⟨_, rfl⟩
        obtain ⟨v1, hv1⟩ : ∃ v, uV s (i + p) 1 = v := ⟨_, rfl⟩
        obtain ⟨u1, hv1'⟩ : ∃ u : Int, (v1 : Int) = u := ⟨_, rfl⟩
        have B1 := Lib.hid (And.intro hE5 (And.intro hj1 (And.intro hv1 hv1')))
        clear hE1 hE5 hj1 hv1 hv1'
        go_wp2_with (first | (go_at_call 36; (with_reducible refine (bit_as g 0 at0 B1.out).mono ?_); rintro e w1 ⟨rfl, g1⟩; simp only [set0] at g1; obtain ⟨pc1, pf1⟩ := pre_cell g1; clear g))
        refine bodyPost_ret (results_tmp2 rfl _ _ _) rfl ?_
        exact fin_err HK.out HJ.out HE.out (by decide) g1.drop.drop.tail

end Go.Proofs.Ytmlkkeabgnhhnaa
