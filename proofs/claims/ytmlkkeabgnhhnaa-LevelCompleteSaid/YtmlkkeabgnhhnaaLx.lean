/- The walk of LevelComplete. -/
import Derived.Test.YtmlkkeabgnhhnaaLw
import Derived.Test.YtmlkkeabgnhhnaaLc
namespace Go.Proofs.Ytmlkkeabgnhhnaa
open Go.RowKit
set_option linter.unusedVariables false
set_option maxRecDepth 100000
set_option linter.unusedSimpArgs false

theorem bit_as3 {W w : World} {L : List AObj} {F : List (Nat × Obj)} {b : Nat} (h : Hp W w L F) (k : Nat) {s : ByteArray} {i : Nat} (hk : L[k]? = some (aRd b s i)) {j v : Nat} {e0 : Int} (hx : uE s i 1 = e0 ∧ uI s i 1 = j ∧ uV s i 1 = v) :
    Calls Try.prog 36 #[.pointer (some ⟨b, 0, none⟩)] w fun e w' => e = .returned (.tuple #[.int .u8 v, .int .i64 e0]) ∧ Hp W w' (L.set k (aRd b s j)) F := by
  obtain ⟨rfl, rfl, rfl⟩ := hx
  exact bit_any h k hk
theorem lr_err {S : ByteArray} {i K l s : Nat} {x : Int} (h : lrE K l S i = x) (hx : x ≠ 0) : lrE K l S i = x ∧ lrV K l s S i = 0 ∧ lrI K l S i = i ∧ lrK K l s S i = K ∧ lrL K l S i = l ∧ lrS K l s S i = s :=
  ⟨h, if_neg (by rw [h]; exact hx), if_neg (by rw [h]; exact hx), if_neg (by rw [h]; exact hx), if_neg (by rw [h]; exact hx), if_neg (by rw [h]; exact hx)⟩

set_option maxHeartbeats 4000000 in
theorem lcomp_walk {W : World} (t0 o0 : Int) (b1 : -9223372036854775808 ≤ t0) (b2 : t0 < 9223372036854775808) (b3 : -9223372036854775808 ≤ o0) (b4 : o0 < 9223372036854775808) (S : ByteArray) :
    Calls Try.prog 8 #[.int .i64 t0, .int .i64 o0, .string S] W fun e w' => e = .returned (.bool true) ∧ Below W.heap.size W w' := by
  have hS := Hp.start W
  by_cases hg : S.size ≤ 100
  · have h48 : S.size ≤ 2 ^ 48 := by omega
    have htd : decide (100 < S.size) = false := by simp; omega
    go_enter Try.func8, Try.ntmps8
    go_wp2_with (first | (go_at_call 23; (with_reducible refine (pair_any t0 o0 b1 b2 b3 b4 _).mono ?_); rintro e w1 ⟨t, o, p1, p2, p3, p4, rfl, rfl⟩) | (go_at_call 24; (with_reducible refine (made_any hS t o rfl rfl p2 p3 (by omega) ⟨rfl, rfl, rfl⟩).mono ?_); rintro e w1 ⟨cb, rfl, h1⟩; clear hS) | (go_at_call 24; (with_reducible refine (made_any h1 t o rfl rfl p2 p3 (by omega) ⟨rfl, rfl, rfl⟩).mono ?_); rintro e w1 ⟨db, rfl, h2⟩; clear h1) | (go_at_call 28; (with_reducible refine (read_any h2 S h48).mono ?_); rintro e w1 ⟨rb, rfl, h3⟩; clear h2) | (go_at_call 13; (with_reducible refine (write_any h3).mono ?_); rintro e w1 ⟨wb, rfl, h4⟩; clear h3))
    have HS := Lib.hid h4
    clear h4
    go_loopw [13] (fun i' wr => ∃ (m K l s : Nat) (B : List Bool), i' = .int .i64 m ∧ o ≤ m ∧ m ≤ t ∧ K ≤ 6 ∧ l = t - m ∧ (s = 0 ∨ s = 2) ∧ B.length ≤ 8 * S.size ∧ Hid (B = seg (sbits S) 0 B.length) ∧
      Hp W wr [aWr wb B, aRd rb S B.length, aCo db K l s, aCo cb K l s] []) (fun i' _ => t - (intOf i').toNat)
    case atStart => exact ⟨o, _, _, _, [], rfl, Nat.le_refl _, by omega, by unfold k0; split <;> omega, rfl, by unfold s0; split <;> omega, by simp, Lib.hid (by simp), HS.out⟩
    case round =>
      obtain ⟨m, K, l, s, B, rfl, hom, hmt, hK, hl, hs2, hBl, HB, g⟩ := hrel
      have hB41 : B.length ≤ 2 ^ 41 := by omega
      have hps : (pstr B).size ≤ 2 ^ 48 := by rw [pstr_size]; omega
      have hb4 : K ≤ 6 ∧ l ≤ 16 ∧ s ≤ 2 := ⟨hK, by omega, by omega⟩
      by_cases hlt : m < t
      · obtain ⟨Q, hQ⟩ : ∃ Q : Int, (B.length : Int) = Q := ⟨_, rfl⟩
        have QQ := Lib.hid hQ
        obtain ⟨G, hG⟩ : ∃ G, gL S B.length = G := ⟨_, rfl⟩
        have HZ : Hid (Zs S B.length G) := Lib.hid (hG ▸ zr_zs)
        have hG16 : G ≤ 16 := hG ▸ gL_le S B.length
        have hl0 : l ≠ 0 := by omega
        have HL := Lib.hid hl
        have HSS := Lib.hid hs2
        clear hQ hl hs2
        by_cases c16 : G = 16
        · have RX := Lib.hid (lr_err (s := s) (show lrE K l S B.length = 4 by unfold lrE; rw [if_neg hl0, if_pos (by rw [hG, c16])]) (by decide))
          subst c16
          clear hG
          go_wp2_with (first | (go_at_call 35; (with_reducible refine (copy_any g 1 at1).mono ?_); rintro e w1 ⟨lb, rfl, h1⟩; clear g))
          have H1 := Lib.hid h1; clear h1
          go_loopw [14] (fun z' wx => ∃ z : Nat, z' = .int .i64 z ∧ z ≤ 16 ∧ Hp W wx [aRd lb S (B.length + z), aWr wb B, aRd rb S B.length, aCo db K l s, aCo cb K l s] []) (fun z' _ => 16 - (intOf z').toNat)
          case atStart => exact ⟨0, rfl, Nat.zero_le _, H1.out⟩
          case round =>
            obtain ⟨z, rfl, hzl, hz⟩ := hrel
            by_cases hlt : z < 16
            · obtain ⟨e1, e2⟩ := HZ.out z hlt
              have i1 : uI S (B.length + z) 1 = B.length + (z + 1) := by unfold uI; rw [if_pos e1]; show B.length + z + 1 = _; omega
              have R := Lib.hid (And.intro e1 (And.intro i1 e2)); clear i1 e1 e2
              have hz16 : z < 16 := by omega
              go_wp2_with (first | (go_at_call 36; (with_reducible refine (bit_as3 hz 0 at0 R.out).mono ?_); rintro e w1 ⟨rfl, hz1⟩; simp only [set0] at hz1; clear hz))
              go_roundw
              case rel => exact ⟨z + 1, by go_num, by omega, hz1⟩
              case measure => simp [intOf]; omega
            · obtain rfl : z = 16 := by omega
              clear hlt hzl
              have hz1 := hz
              clear hz
              have hz := hz1
              clear hz1
              go_wp2_with (first | (go_at_call 32; (with_reducible refine (pos_eq hz 2 at2 QQ.out).mono ?_); rintro e w1 ⟨rfl, h4⟩; clear hz) | (go_at_call 30; (with_reducible refine (lread_as h4 4 2 (by decide) at4 at2 hb4 RX.out).mono ?_); rintro e w1 ⟨rfl, h5⟩; simp only [set2, set4] at h5; clear h4) | (go_at_call 32; (with_reducible refine (pos_eq h5 2 at2 QQ.out).mono ?_); rintro e w1 ⟨rfl, h6⟩; clear h5))
              have hT := h6.tail
              clear h6
              obtain ⟨RR, hRR⟩ : ∃ x, x = [aRd rb S B.length, aCo db K l s, aCo cb K l s] := ⟨_, rfl⟩
              rw [← hRR] at hT
              clear hRR
              go_wp2_with (first | (go_at_call 28; (with_reducible refine (read_any hT S h48).mono ?_); rintro e w1 ⟨nb, rfl, u1⟩; clear hT) | (go_at_call 34; (with_reducible refine (bytes_any u1 1 at1 hB41).mono ?_); rintro e w1 ⟨rfl, u2⟩; clear u1) | (go_at_call 28; (with_reducible refine (read_any u2 (pstr B) hps).mono ?_); rintro e w1 ⟨tb, rfl, u3⟩; clear u2))
              have HT := Lib.hid u3; clear u3
              go_loopw [23] (fun i wx => ∃ c : Nat, i = .int .i64 c ∧ c ≤ B.length ∧ Hp W wx (aRd tb (pstr B) c :: aRd nb S c :: aWr wb B :: RR) []) (fun i _ => B.length - (intOf i).toNat)
              case atStart => exact ⟨0, rfl, Nat.zero_le _, HT.out⟩
              case round =>
                obtain ⟨c, rfl, q1, q2⟩ := hrel
                by_cases hc : c < B.length
                · obtain ⟨e1, e2, e3⟩ := pre_bits HB.out hBl hc
                  have i1 : uI S c 1 = c + 1 := by unfold uI; rw [if_pos e1]; rfl
                  have i2 : uI (pstr B) c 1 = c + 1 := by unfold uI; rw [if_pos e2]; rfl
                  have R := Lib.hid (And.intro i1 (And.intro i2 e3)); clear i1 i2 e1 e2 e3
                  go_wp2_with (first | (go_at_call 17; (with_reducible refine (len_hp q2 2 at2 hB41).mono ?_); rintro e w1 ⟨rfl, q3⟩; clear q2) | (go_at_call 36; (with_reducible refine (bit_any q3 1 at1).mono ?_); rintro e w1 ⟨rfl, q4⟩; simp only [set1, R.out.1, R.out.2.2] at q4 ⊢; clear q3) | (go_at_call 36; (with_reducible refine (bit_any q4 0 at0).mono ?_); rintro e w1 ⟨rfl, q5⟩; simp only [set0, R.out.2.1] at q5 ⊢; clear q4))
                  go_roundw
                  case rel => exact ⟨c + 1, by go_num, by omega, q5⟩
                  case measure => simp [intOf]; omega
                · obtain rfl : c = B.length := by omega
                  go_wp2_with (first | (go_at_call 17; (with_reducible refine (len_hp q2 2 at2 hB41).mono ?_); rintro e w1 ⟨rfl, q3⟩; clear q2) | (go_at_call 10; (with_reducible refine (lknown_any q3).mono ?_); rintro e w1 ⟨rfl, q5⟩))
                  exact bodyPost_ret (results_tmp rfl _ _ _) rfl ⟨rfl, q5.below⟩
        · have hG15 : G ≤ 15 := by omega
          by_cases c5 : uE S (B.length + G) 1 = 0
          · have c1 : uV S (B.length + G) 1 = 1 := by
              have h1 := zr_end (s := S) (f := 16) (i := B.length) (by show gL S B.length < 16; omega)
              have h2 : ¬ (uE S (B.length + gL S B.length) 1 = 0 ∧ uV S (B.length + gL S B.length) 1 = 0) := h1
              rw [hG] at h2
              have := uV_one (s := S) (i := B.length + G)
              omega
            obtain ⟨j, hj⟩ : ∃ j, uI S (B.length + G) 1 = j := ⟨_, rfl⟩
            have BX := Lib.hid (And.intro c5 (And.intro hj c1))
            have t16 : ((G : Int) == 16) = false := by simp; omega
            by_cases cE : lrE K l S B.length = 0
            · obtain ⟨v, r1, r2, r3, r4, r5, r6, r7, r8, r9, r10, r11⟩ := lread_fwd hK HSS.out cE
              obtain ⟨p1, p2, p3, p4, p5⟩ := put_ok (B := B) hK HSS.out r5
              obtain ⟨B', hB'⟩ : ∃ B', lpB B K l s v = B' := ⟨_, rfl⟩
              have hBB : B' = seg (sbits S) 0 B'.length ∧ B'.length = B.length + (lcode K (lnum v - s)).length := by
                have e : B'.length = B.length + (lcode K (lnum v - s)).length := by rw [← hB', p4, List.length_append]
                refine ⟨?_, e⟩
                rw [e, seg_add, Nat.zero_add, r7, ← HB.out, ← hB', p4]
              obtain ⟨K', hK'⟩ : ∃ x, lpK K l s v = x := ⟨_, rfl⟩
              obtain ⟨l', hl'⟩ : ∃ x, lpL K l s v = x := ⟨_, rfl⟩
              obtain ⟨s', hs'⟩ : ∃ x, lpS K l s v = x := ⟨_, rfl⟩
              rw [hK'] at r9 p1
              rw [hl'] at r10 p2
              rw [hs'] at r11 p3
              have RX := Lib.hid (And.intro cE (And.intro r1 (And.intro (show lrI K l S B.length = B'.length by rw [r6, hBB.2]) (And.intro r9 (And.intro r10 r11)))))
              have PX := Lib.hid (show lpE K l s v = 0 ∧ lpB B K l s v = B' ∧ lpK K l s v = K' ∧ lpL K l s v = l' ∧ lpS K l s v = s' from ⟨r5, hB', hK', hl', hs'⟩)
              have tv : (v == 0) = false := by simpa using r2
              have hb5 : K ≤ 6 ∧ l ≤ 16 ∧ (s = 0 ∨ s = 2) ∧ B.length ≤ 2 ^ 39 := ⟨hK, hb4.2.1, HSS.out, by omega⟩
              obtain ⟨Q', hQ'⟩ : ∃ Q : Int, (B'.length : Int) = Q := ⟨_, rfl⟩
              have QP := Lib.hid hQ'
              have hB41' : B'.length ≤ 2 ^ 41 := by rw [hBB.2]; omega
              have hB8 : B'.length ≤ 8 * S.size := by rw [hBB.2]; exact r8
              have HBB := Lib.hid hBB.1
              have PK := Lib.hid (And.intro p1 (And.intro p2 p3))
              clear c5 hj c1 r1 r2 r5 r6 r7 r8 r9 r10 r11 p1 p2 p3 p4 p5 hB' hBB hQ' cE hG c16 hK' hl' hs'
              go_wp2_with (first | (go_at_call 35; (with_reducible refine (copy_any g 1 at1).mono ?_); rintro e w1 ⟨lb, rfl, h1⟩; clear g))
              have H1 := Lib.hid h1; clear h1
              go_loopw [14] (fun z' wx => ∃ z : Nat, z' = .int .i64 z ∧ z ≤ G ∧ Hp W wx [aRd lb S (B.length + z), aWr wb B, aRd rb S B.length, aCo db K l s, aCo cb K l s] []) (fun z' _ => 16 - (intOf z').toNat)
              case atStart => exact ⟨0, rfl, Nat.zero_le _, H1.out⟩
              case round =>
                obtain ⟨z, rfl, hzl, hz⟩ := hrel
                by_cases hlt : z < G
                · obtain ⟨e1, e2⟩ := HZ.out z hlt
                  have i1 : uI S (B.length + z) 1 = B.length + (z + 1) := by unfold uI; rw [if_pos e1]; show B.length + z + 1 = _; omega
                  have R := Lib.hid (And.intro e1 (And.intro i1 e2)); clear i1 e1 e2
                  have hz16 : z < 16 := by omega
                  go_wp2_with (first | (go_at_call 36; (with_reducible refine (bit_as3 hz 0 at0 R.out).mono ?_); rintro e w1 ⟨rfl, hz1⟩; simp only [set0] at hz1; clear hz))
                  go_roundw
                  case rel => exact ⟨z + 1, by go_num, by omega, hz1⟩
                  case measure => simp [intOf]; omega
                · obtain rfl : z = G := by omega
                  clear hlt hzl
                  go_wp2_with (first | (go_at_call 36; (with_reducible refine (bit_as3 hz 0 at0 BX.out).mono ?_); rintro e w1 ⟨rfl, hz1⟩; simp only [set0] at hz1; clear hz) | (go_at_call 32; (with_reducible refine (pos_eq hz1 2 at2 QQ.out).mono ?_); rintro e w1 ⟨rfl, h4⟩; clear hz1) | (go_at_call 30; (with_reducible refine (lread_as h4 4 2 (by decide) at4 at2 hb4 RX.out).mono ?_); rintro e w1 ⟨rfl, h5⟩; simp only [set2, set4] at h5; clear h4) | (go_at_call 15; (with_reducible refine (lput_as h5 3 1 (by decide) at3 at1 hb5 v r3 r4 PX.out).mono ?_); rintro e w1 ⟨rfl, h6⟩; simp only [set1, set3] at h6; clear h5) | (go_at_call 17; (with_reducible refine (len_as h6 1 at1 hB41' QP.out).mono ?_); rintro e w1 ⟨rfl, h7⟩; clear h6) | (go_at_call 32; (with_reducible refine (pos_eq h7 2 at2 QP.out).mono ?_); rintro e w1 ⟨rfl, h8⟩; clear h7))
                  go_roundw
                  case rel => exact ⟨m + 1, _, _, _, B', by go_num, by omega, by omega, PK.out.1, by rw [PK.out.2.1, HL.out]; omega, Or.inl PK.out.2.2, hB8, HBB, h8.tail⟩
                  case measure => simp [intOf]; omega
            · have cE5 : lrE K l S B.length = 5 := by
                have h := cE
                unfold lrE at h ⊢
                rw [if_neg hl0, if_neg (by omega), hG, if_neg (fun h => h c5)] at h ⊢
                rw [uE_nat (by have := nS_le (K := K) (P := G) hK; omega)] at h ⊢
                split at h <;> simp_all
              have RX := Lib.hid (lr_err (s := s) cE5 (by decide))
              obtain ⟨LQ0, hLQ⟩ : ∃ z : Int, ((8 * S.size - B.length : Nat) : Int) = z := ⟨_, rfl⟩
              have hL27 : decide (27 < LQ0) = false := by have := lrE_five hK cE5; simp; omega
              have LQ := Lib.hid hLQ
              clear hLQ cE cE5 c5 c1 hj hG c16
              go_wp2_with (first | (go_at_call 35; (with_reducible refine (copy_any g 1 at1).mono ?_); rintro e w1 ⟨lb, rfl, h1⟩; clear g))
              have H1 := Lib.hid h1; clear h1
              go_loopw [14] (fun z' wx => ∃ z : Nat, z' = .int .i64 z ∧ z ≤ G ∧ Hp W wx [aRd lb S (B.length + z), aWr wb B, aRd rb S B.length, aCo db K l s, aCo cb K l s] []) (fun z' _ => 16 - (intOf z').toNat)
              case atStart => exact ⟨0, rfl, Nat.zero_le _, H1.out⟩
              case round =>
                obtain ⟨z, rfl, hzl, hz⟩ := hrel
                by_cases hlt : z < G
                · obtain ⟨e1, e2⟩ := HZ.out z hlt
                  have i1 : uI S (B.length + z) 1 = B.length + (z + 1) := by unfold uI; rw [if_pos e1]; show B.length + z + 1 = _; omega
                  have R := Lib.hid (And.intro e1 (And.intro i1 e2)); clear i1 e1 e2
                  have hz16 : z < 16 := by omega
                  go_wp2_with (first | (go_at_call 36; (with_reducible refine (bit_as3 hz 0 at0 R.out).mono ?_); rintro e w1 ⟨rfl, hz1⟩; simp only [set0] at hz1; clear hz))
                  go_roundw
                  case rel => exact ⟨z + 1, by go_num, by omega, hz1⟩
                  case measure => simp [intOf]; omega
                · obtain rfl : z = G := by omega
                  clear hlt hzl
                  go_wp2_with (first | (go_at_call 36; (with_reducible refine (bit_as3 hz 0 at0 BX.out).mono ?_); rintro e w1 ⟨rfl, hz1⟩; simp only [set0] at hz1; clear hz))

                  have hz := hz1
                  clear hz1
                  go_wp2_with (first | (go_at_call 32; (with_reducible refine (pos_eq hz 2 at2 QQ.out).mono ?_); rintro e w1 ⟨rfl, h4⟩; clear hz) | (go_at_call 30; (with_reducible refine (lread_as h4 4 2 (by decide) at4 at2 hb4 RX.out).mono ?_); rintro e w1 ⟨rfl, h5⟩; simp only [set2, set4] at h5; clear h4) | (go_at_call 32; (with_reducible refine (pos_eq h5 2 at2 QQ.out).mono ?_); rintro e w1 ⟨rfl, h6⟩; clear h5) | (go_at_call 37; (with_reducible refine (left_eq h6 2 at2 LQ.out).mono ?_); rintro e w1 ⟨rfl, h7⟩; clear h6))
                  have hT := h7.tail
                  clear h7
                  obtain ⟨RR, hRR⟩ : ∃ x, x = [aRd rb S B.length, aCo db K l s, aCo cb K l s] := ⟨_, rfl⟩
                  rw [← hRR] at hT
                  clear hRR
                  go_wp2_with (first | (go_at_call 28; (with_reducible refine (read_any hT S h48).mono ?_); rintro e w1 ⟨nb, rfl, u1⟩; clear hT) | (go_at_call 34; (with_reducible refine (bytes_any u1 1 at1 hB41).mono ?_); rintro e w1 ⟨rfl, u2⟩; clear u1) | (go_at_call 28; (with_reducible refine (read_any u2 (pstr B) hps).mono ?_); rintro e w1 ⟨tb, rfl, u3⟩; clear u2))
                  have HT := Lib.hid u3; clear u3
                  go_loopw [23] (fun i wx => ∃ c : Nat, i = .int .i64 c ∧ c ≤ B.length ∧ Hp W wx (aRd tb (pstr B) c :: aRd nb S c :: aWr wb B :: RR) []) (fun i _ => B.length - (intOf i).toNat)
                  case atStart => exact ⟨0, rfl, Nat.zero_le _, HT.out⟩
                  case round =>
                    obtain ⟨c, rfl, q1, q2⟩ := hrel
                    by_cases hc : c < B.length
                    · obtain ⟨e1, e2, e3⟩ := pre_bits HB.out hBl hc
                      have i1 : uI S c 1 = c + 1 := by unfold uI; rw [if_pos e1]; rfl
                      have i2 : uI (pstr B) c 1 = c + 1 := by unfold uI; rw [if_pos e2]; rfl
                      have R := Lib.hid (And.intro i1 (And.intro i2 e3)); clear i1 i2 e1 e2 e3
                      go_wp2_with (first | (go_at_call 17; (with_reducible refine (len_hp q2 2 at2 hB41).mono ?_); rintro e w1 ⟨rfl, q3⟩; clear q2) | (go_at_call 36; (with_reducible refine (bit_any q3 1 at1).mono ?_); rintro e w1 ⟨rfl, q4⟩; simp only [set1, R.out.1, R.out.2.2] at q4 ⊢; clear q3) | (go_at_call 36; (with_reducible refine (bit_any q4 0 at0).mono ?_); rintro e w1 ⟨rfl, q5⟩; simp only [set0, R.out.2.1] at q5 ⊢; clear q4))
                      go_roundw
                      case rel => exact ⟨c + 1, by go_num, by omega, q5⟩
                      case measure => simp [intOf]; omega
                    · obtain rfl : c = B.length := by omega
                      go_wp2_with (first | (go_at_call 17; (with_reducible refine (len_hp q2 2 at2 hB41).mono ?_); rintro e w1 ⟨rfl, q3⟩; clear q2) | (go_at_call 10; (with_reducible refine (lknown_any q3).mono ?_); rintro e w1 ⟨rfl, q5⟩))
                      exact bodyPost_ret (results_tmp rfl _ _ _) rfl ⟨rfl, q5.below⟩
          · have cE5 : lrE K l S B.length = 5 := by unfold lrE; rw [if_neg hl0, if_neg (by omega), hG, if_pos c5]
            have RX := Lib.hid (lr_err (s := s) cE5 (by decide))
            obtain ⟨LQ0, hLQ⟩ : ∃ z : Int, ((8 * S.size - B.length : Nat) : Int) = z := ⟨_, rfl⟩
            have hL27 : decide (27 < LQ0) = false := by have := lrE_five hK cE5; simp; omega
            have LQ := Lib.hid hLQ
            have c55 := uE_one5 c5
            obtain ⟨j, hj⟩ : ∃ j, uI S (B.length + G) 1 = j := ⟨_, rfl⟩
            obtain ⟨v1, hv1⟩ : ∃ v, uV S (B.length + G) 1 = v := ⟨_, rfl⟩
            have BX := Lib.hid (And.intro c55 (And.intro hj hv1))
            have t16 : ((G : Int) == 16) = false := by simp; omega
            clear hLQ cE5 c5 c55 hj hv1 hG c16
            go_wp2_with (first | (go_at_call 35; (with_reducible refine (copy_any g 1 at1).mono ?_); rintro e w1 ⟨lb, rfl, h1⟩; clear g))
            have H1 := Lib.hid h1; clear h1
            go_loopw [14] (fun z' wx => ∃ z : Nat, z' = .int .i64 z ∧ z ≤ G ∧ Hp W wx [aRd lb S (B.length + z), aWr wb B, aRd rb S B.length, aCo db K l s, aCo cb K l s] []) (fun z' _ => 16 - (intOf z').toNat)
            case atStart => exact ⟨0, rfl, Nat.zero_le _, H1.out⟩
            case round =>
              obtain ⟨z, rfl, hzl, hz⟩ := hrel
              by_cases hlt : z < G
              · obtain ⟨e1, e2⟩ := HZ.out z hlt
                have i1 : uI S (B.length + z) 1 = B.length + (z + 1) := by unfold uI; rw [if_pos e1]; show B.length + z + 1 = _; omega
                have R := Lib.hid (And.intro e1 (And.intro i1 e2)); clear i1 e1 e2
                have hz16 : z < 16 := by omega
                go_wp2_with (first | (go_at_call 36; (with_reducible refine (bit_as3 hz 0 at0 R.out).mono ?_); rintro e w1 ⟨rfl, hz1⟩; simp only [set0] at hz1; clear hz))
                go_roundw
                case rel => exact ⟨z + 1, by go_num, by omega, hz1⟩
                case measure => simp [intOf]; omega
              · obtain rfl : z = G := by omega
                clear hlt hzl
                go_wp2_with (first | (go_at_call 36; (with_reducible refine (bit_as3 hz 0 at0 BX.out).mono ?_); rintro e w1 ⟨rfl, hz1⟩; simp only [set0] at hz1; clear hz))

                have hz := hz1
                clear hz1
                go_wp2_with (first | (go_at_call 32; (with_reducible refine (pos_eq hz 2 at2 QQ.out).mono ?_); rintro e w1 ⟨rfl, h4⟩; clear hz) | (go_at_call 30; (with_reducible refine (lread_as h4 4 2 (by decide) at4 at2 hb4 RX.out).mono ?_); rintro e w1 ⟨rfl, h5⟩; simp only [set2, set4] at h5; clear h4) | (go_at_call 32; (with_reducible refine (pos_eq h5 2 at2 QQ.out).mono ?_); rintro e w1 ⟨rfl, h6⟩; clear h5) | (go_at_call 37; (with_reducible refine (left_eq h6 2 at2 LQ.out).mono ?_); rintro e w1 ⟨rfl, h7⟩; clear h6))
                have hT := h7.tail
                clear h7
                obtain ⟨RR, hRR⟩ : ∃ x, x = [aRd rb S B.length, aCo db K l s, aCo cb K l s] := ⟨_, rfl⟩
                rw [← hRR] at hT
                clear hRR
                go_wp2_with (first | (go_at_call 28; (with_reducible refine (read_any hT S h48).mono ?_); rintro e w1 ⟨nb, rfl, u1⟩; clear hT) | (go_at_call 34; (with_reducible refine (bytes_any u1 1 at1 hB41).mono ?_); rintro e w1 ⟨rfl, u2⟩; clear u1) | (go_at_call 28; (with_reducible refine (read_any u2 (pstr B) hps).mono ?_); rintro e w1 ⟨tb, rfl, u3⟩; clear u2))
                have HT := Lib.hid u3; clear u3
                go_loopw [23] (fun i wx => ∃ c : Nat, i = .int .i64 c ∧ c ≤ B.length ∧ Hp W wx (aRd tb (pstr B) c :: aRd nb S c :: aWr wb B :: RR) []) (fun i _ => B.length - (intOf i).toNat)
                case atStart => exact ⟨0, rfl, Nat.zero_le _, HT.out⟩
                case round =>
                  obtain ⟨c, rfl, q1, q2⟩ := hrel
                  by_cases hc : c < B.length
                  · obtain ⟨e1, e2, e3⟩ := pre_bits HB.out hBl hc
                    have i1 : uI S c 1 = c + 1 := by unfold uI; rw [if_pos e1]; rfl
                    have i2 : uI (pstr B) c 1 = c + 1 := by unfold uI; rw [if_pos e2]; rfl
                    have R := Lib.hid (And.intro i1 (And.intro i2 e3)); clear i1 i2 e1 e2 e3
                    go_wp2_with (first | (go_at_call 17; (with_reducible refine (len_hp q2 2 at2 hB41).mono ?_); rintro e w1 ⟨rfl, q3⟩; clear q2) | (go_at_call 36; (with_reducible refine (bit_any q3 1 at1).mono ?_); rintro e w1 ⟨rfl, q4⟩; simp only [set1, R.out.1, R.out.2.2] at q4 ⊢; clear q3) | (go_at_call 36; (with_reducible refine (bit_any q4 0 at0).mono ?_); rintro e w1 ⟨rfl, q5⟩; simp only [set0, R.out.2.1] at q5 ⊢; clear q4))
                    go_roundw
                    case rel => exact ⟨c + 1, by go_num, by omega, q5⟩
                    case measure => simp [intOf]; omega
                  · obtain rfl : c = B.length := by omega
                    go_wp2_with (first | (go_at_call 17; (with_reducible refine (len_hp q2 2 at2 hB41).mono ?_); rintro e w1 ⟨rfl, q3⟩; clear q2) | (go_at_call 10; (with_reducible refine (lknown_any q3).mono ?_); rintro e w1 ⟨rfl, q5⟩))
                    exact bodyPost_ret (results_tmp rfl _ _ _) rfl ⟨rfl, q5.below⟩
      · obtain rfl : m = t := by omega
        have hT := g
        clear g
        obtain ⟨RR, hRR⟩ : ∃ x, x = [aRd rb S B.length, aCo db K l s, aCo cb K l s] := ⟨_, rfl⟩
        rw [← hRR] at hT
        clear hRR hl
        go_wp2_with (first | (go_at_call 28; (with_reducible refine (read_any hT S h48).mono ?_); rintro e w1 ⟨nb, rfl, u1⟩; clear hT) | (go_at_call 34; (with_reducible refine (bytes_any u1 1 at1 hB41).mono ?_); rintro e w1 ⟨rfl, u2⟩; clear u1) | (go_at_call 28; (with_reducible refine (read_any u2 (pstr B) hps).mono ?_); rintro e w1 ⟨tb, rfl, u3⟩; clear u2))
        have HT := Lib.hid u3; clear u3
        go_loopw [23] (fun i wx => ∃ c : Nat, i = .int .i64 c ∧ c ≤ B.length ∧ Hp W wx (aRd tb (pstr B) c :: aRd nb S c :: aWr wb B :: RR) []) (fun i _ => B.length - (intOf i).toNat)
        case atStart => exact ⟨0, rfl, Nat.zero_le _, HT.out⟩
        case round =>
          obtain ⟨c, rfl, q1, q2⟩ := hrel
          by_cases hc : c < B.length
          · obtain ⟨e1, e2, e3⟩ := pre_bits HB.out hBl hc
            have i1 : uI S c 1 = c + 1 := by unfold uI; rw [if_pos e1]; rfl
            have i2 : uI (pstr B) c 1 = c + 1 := by unfold uI; rw [if_pos e2]; rfl
            have R := Lib.hid (And.intro i1 (And.intro i2 e3)); clear i1 i2 e1 e2 e3
            go_wp2_with (first | (go_at_call 17; (with_reducible refine (len_hp q2 2 at2 hB41).mono ?_); rintro e w1 ⟨rfl, q3⟩; clear q2) | (go_at_call 36; (with_reducible refine (bit_any q3 1 at1).mono ?_); rintro e w1 ⟨rfl, q4⟩; simp only [set1, R.out.1, R.out.2.2] at q4 ⊢; clear q3) | (go_at_call 36; (with_reducible refine (bit_any q4 0 at0).mono ?_); rintro e w1 ⟨rfl, q5⟩; simp only [set0, R.out.2.1] at q5 ⊢; clear q4))
            go_roundw
            case rel => exact ⟨c + 1, by go_num, by omega, q5⟩
            case measure => simp [intOf]; omega
          · obtain rfl : c = B.length := by omega
            go_wp2_with (first | (go_at_call 17; (with_reducible refine (len_hp q2 2 at2 hB41).mono ?_); rintro e w1 ⟨rfl, q3⟩; clear q2) | (go_at_call 10; (with_reducible refine (lknown_any q3).mono ?_); rintro e w1 ⟨rfl, q5⟩))
            exact bodyPost_ret (results_tmp rfl _ _ _) rfl ⟨rfl, q5.below⟩
  · have htd : decide (100 < S.size) = true := by simp; omega
    go_enter Try.func8, Try.ntmps8
    go_wp2_with (first | (go_at_call 23; (with_reducible refine (pair_any t0 o0 b1 b2 b3 b4 _).mono ?_); rintro e w1 ⟨t, o, p1, p2, p3, p4, rfl, rfl⟩) | (go_at_call 24; (with_reducible refine (made_any hS t o rfl rfl p2 p3 (by omega) ⟨rfl, rfl, rfl⟩).mono ?_); rintro e w1 ⟨cb, rfl, h1⟩; clear hS) | (go_at_call 24; (with_reducible refine (made_any h1 t o rfl rfl p2 p3 (by omega) ⟨rfl, rfl, rfl⟩).mono ?_); rintro e w1 ⟨db, rfl, h2⟩; clear h1) | (go_at_call 10; (with_reducible refine (lknown_any h2).mono ?_); rintro e w1 ⟨rfl, g4⟩))
    exact bodyPost_ret (results_tmp rfl _ _ _) rfl ⟨rfl, g4.below⟩

end Go.Proofs.Ytmlkkeabgnhhnaa
