/- levels. -/
import Derived.Test.YtchoiimmcgkimaaDoorJb
import Derived.Deep.CutBlock
import Derived.Deep.QuietTactic
namespace Go.Proofs.YtchoiimmcgkimaaDoor
open Go.RowKit Go.Shelf
set_option linter.unusedVariables false
set_option maxRecDepth 100000
set_option linter.unusedSimpArgs false

section
variable {W w : World} {L : List AObj} {F : List (Nat × Obj)}
theorem cut_is (h : Hp W w L F) {v m f r : Int} {B : List (Int × Int)} (hE : cutE v m f r = 0) (hB : cutB v m f r = B) :
    Calls Tryd.prog 18 #[.int .i64 v, .int .i64 m, .int .i64 f, .int .i64 r] w fun e w' => ∃ v', e = .returned (.tuple #[v', .int .i64 0]) ∧ Hp W w' (aBn v' B :: L) F := by
  have := cut_any h v m f r
  rwa [hE, hB] at this
theorem esc_is (h : Hp W w L F) {v : Int} {N : Nat} {B : List (Int × Int)} (hv : v = (N : Int)) (hN : N ≤ 4294967294) (hB : escB N 0 = B) :
    Calls Tryd.prog 19 #[.int .u64 v, .int .i64 0] w fun e w' => ∃ v', e = .returned (.tuple #[v', .int .i64 0]) ∧ Hp W w' (aBn v' B :: L) F := by
  have := escape_any h N 0 (by omega)
  rw [show escE N 0 = 0 from if_neg (by simp; omega), hB, ← hv] at this
  exact this
theorem flag_is (h : Hp W w L F) (c : Int) {is : Bool} {x : Int} (hx : b1 is = x) :
    Calls Tryd.prog 13 #[.int .i64 c, .bool is] w fun e w' => e = .returned (.agg #[.int .i64 c, .int .u8 x]) ∧ Hp W w' L F := by
  subst hx
  exact flag_any h c is
theorem bn_cat {v : Value} {a b : List (Int × Int)} (h : Hp W w (aSl 31 2 v (a.length + b.length) (bcs a ++ bcs b) :: L) F) : Hp W w (aBn v (a ++ b) :: L) F := by
  unfold aBn
  rw [List.length_append, bcs_append]
  exact h
theorem bn_cat1 {v : Value} {a : List (Int × Int)} {x : Int × Int} (h : Hp W w (aSl 31 2 v (a.length + 1) (bcs a ++ bcs [x]) :: L) F) : Hp W w (aBn v (a ++ [x]) :: L) F := by
  unfold aBn
  rw [List.length_append, bcs_append]
  exact h
end
/-- Place j of the list, counted from the end. -/
theorem rev_get {zs : List Int} {n j : Nat} (hn : zs.length = n) (hj : j < n) {z : Int} (hz : zs[j]? = some z) : zs.reverse.getD (n - (j + 1)) 0 = z := by
  rw [List.getD_eq_getElem?_getD, List.getElem?_reverse (by omega), hn, show n - 1 - (n - (j + 1)) = j by omega, hz]
  rfl
theorem lv_next {cat : Int} {zs : List Int} {n j : Nat} (hn : zs.length = n) (hj : j < n) {z : Int} (hz : zs[j]? = some z) : lvP cat zs.reverse (n - j) = lvP cat zs.reverse (n - (j + 1)) ++ lvZ cat (ones (zs.reverse.take (n - (j + 1)))) (lrg (zs.reverse.take (n - (j + 1)))) z := by
  rw [show n - j = (n - (j + 1)) + 1 by omega, lvP, rev_get hn hj hz]
theorem lv_step {cat : Int} {zs : List Int} {n j : Nat} {out : List (Int × Int)} {z : Int} (hn : zs.length = n) (hj : j < n) (hz : zs[j]? = some z) (hb : 14 < z.natAbs) :
    out ++ lvP cat zs.reverse (n - (j + 1)) ++ cntB [lvF cat (ones (zs.reverse.take (n - (j + 1)))) (lrg (zs.reverse.take (n - (j + 1)))), lvR cat (lrg (zs.reverse.take (n - (j + 1))))] (min (z.natAbs - 1) 14) (decide (((min (z.natAbs - 1) 14 : Nat) : Int) ≠ 14)) ++ escB (z.natAbs - 15) 0 ++ [(-1, b1 (decide (z < 0)))] = out ++ lvP cat zs.reverse (n - j) := by
  rw [lv_next hn hj hz, lvZ, if_pos hb]
  simp only [List.append_assoc]
theorem lv_step0 {cat : Int} {zs : List Int} {n j : Nat} {out : List (Int × Int)} {z : Int} (hn : zs.length = n) (hj : j < n) (hz : zs[j]? = some z) (hb : ¬ 14 < z.natAbs) :
    out ++ lvP cat zs.reverse (n - (j + 1)) ++ cntB [lvF cat (ones (zs.reverse.take (n - (j + 1)))) (lrg (zs.reverse.take (n - (j + 1)))), lvR cat (lrg (zs.reverse.take (n - (j + 1))))] (min (z.natAbs - 1) 14) (decide (((min (z.natAbs - 1) 14 : Nat) : Int) ≠ 14)) ++ [(-1, b1 (decide (z < 0)))] = out ++ lvP cat zs.reverse (n - j) := by
  rw [lv_next hn hj hz, lvZ, if_neg hb]
  simp only [List.append_assoc, List.nil_append]
theorem ones_snoc (l : List Int) (z : Int) : ones (l ++ [z]) = ones l + if z.natAbs = 1 then 1 else 0 := by
  unfold ones
  rw [List.filter_append, List.length_append]
  by_cases c : z.natAbs = 1 <;> simp [c]
theorem lrg_snoc (l : List Int) (z : Int) : lrg (l ++ [z]) = lrg l + if z.natAbs = 1 then 0 else 1 := by
  unfold lrg
  rw [List.filter_append, List.length_append]
  by_cases c : z.natAbs = 1 <;> simp [c]
theorem ones_le (l : List Int) : ones l ≤ l.length := List.length_filter_le _ _
theorem lrg_le (l : List Int) : lrg l ≤ l.length := List.length_filter_le _ _
theorem take_rev {zs : List Int} {n j : Nat} (hn : zs.length = n) (hj : j < n) {z : Int} (hz : zs[j]? = some z) : zs.reverse.take (n - j) = zs.reverse.take (n - (j + 1)) ++ [z] := by
  rw [show n - j = (n - (j + 1)) + 1 by omega, List.take_add_one]
  congr 1
  have := rev_get hn hj hz
  rw [List.getD_eq_getElem?_getD] at this
  rw [List.getElem?_eq_getElem (by simp; omega)] at this ⊢
  simp at this ⊢
  exact this

theorem cx_step {W w : World} {L : List AObj} {F : List (Nat × Obj)} {b : Nat} {cat : Int} {zs : List Int} {n j : Nat} (hn : zs.length = n) (hj : j < n) {z : Int} (hz : zs[j]? = some z)
    (h : Hp W w L ((b, cxO cat (ones (zs.reverse.take (n - (j + 1))) + if z.natAbs = 1 then 1 else 0) (lrg (zs.reverse.take (n - (j + 1))) + if z.natAbs = 1 then 0 else 1)) :: F)) :
    Hp W w L ((b, cxO cat (ones (zs.reverse.take (n - j))) (lrg (zs.reverse.take (n - j)))) :: F) := by
  rw [take_rev hn hj hz, ones_snoc, lrg_snoc]
  exact h

set_option maxHeartbeats 4000000 in
theorem levels_any {W w : World} {L : List AObj} {F : List (Nat × Obj)} {b gr n cap : Nat} {v : Value} {cat : Int} {out : List (Int × Int)} {zs : List Int}
    (h : Hp W w (aBn v out :: aSl 3 1 (.slice (some ⟨gr, 0, none⟩) n cap) n (zs.map (.int .i64)) :: L) ((b, cxO cat 0 0) :: F)) (hn : zs.length = n) (hn16 : n ≤ 16) (hzs : ∀ z ∈ zs, z ≠ 0 ∧ z.natAbs ≤ 32768) (c0 : 0 ≤ cat) (c4 : cat ≤ 4) (hout : out.length ≤ 1000) :
    Calls Tryd.prog 15 #[.pointer (some ⟨b, 0, none⟩), v, .slice (some ⟨gr, 0, none⟩) n n] w fun e w' => ∃ v', e = .returned v' ∧ Hp W w' (aBn v' (out ++ lvP cat zs.reverse n) :: aSl 3 1 (.slice (some ⟨gr, 0, none⟩) n cap) n (zs.map (.int .i64)) :: L) F := by
  obtain ⟨i0, hi, hz0, hz1, hz2⟩ := bin_info
  have H := Lib.hid (show Hp W w (aBn v (out ++ lvP cat zs.reverse (n - n)) :: aSl 3 1 (.slice (some ⟨gr, 0, none⟩) n cap) n (zs.map (.int .i64)) :: L) ((b, cxO cat (ones (zs.reverse.take (n - n))) (lrg (zs.reverse.take (n - n)))) :: F) by
    rw [Nat.sub_self]; simpa [lvP, ones, lrg] using h)
  have HN := Lib.hid hn
  have HZS := Lib.hid hzs
  have HOUT := Lib.hid hout
  have nw : IntKind.i64.wrap ((n : Int) - 1) = (n : Int) - 1 := by rw [IntKind.wrap_i64]; omega
  clear h hn hzs hout
  go_enter Tryd.func15, Tryd.ntmps15
  go_wp2_with (fail)
  go_loopw [1, 7] (fun ov' i' wr => ∃ (k : Nat) (i : Int), i' = .int .i64 i ∧ i = (k : Int) - 1 ∧ k ≤ n ∧ Hp W wr (aBn ov' (out ++ lvP cat zs.reverse (n - k)) :: aSl 3 1 (.slice (some ⟨gr, 0, none⟩) n cap) n (zs.map (.int .i64)) :: L) ((b, cxO cat (ones (zs.reverse.take (n - k))) (lrg (zs.reverse.take (n - k)))) :: F)) (fun _ i' _ => (intOf i' + 1).toNat)
  case atStart => exact ⟨n, (n : Int) - 1, rfl, rfl, Nat.le_refl _, H.out⟩
  case round =>
    obtain ⟨k, i, rfl, hik, hk, hq⟩ := hrel
    clear H
    by_cases hk0 : k = 0
    · subst hk0
      obtain rfl : i = -1 := by omega
      rw [Nat.sub_zero] at hq
      have HQ := Lib.hid hq.drop
      clear hq hk hik
      go_wp2_with (fail)
      refine bodyPost_ret (results_tmp rfl _ _ _) rfl ?_
      exact ⟨_, rfl, HQ.out⟩
    · obtain ⟨j, rfl⟩ : ∃ j, k = j + 1 := ⟨k - 1, by omega⟩
      obtain rfl : i = (j : Int) := by omega
      have hj : j < n := by omega
      obtain ⟨z, hz⟩ : ∃ z, zs[j]? = some z := ⟨_, List.getElem?_eq_getElem (by rw [HN.out]; exact hj)⟩
      obtain ⟨zn, zb⟩ := HZS.out z (List.mem_of_getElem? hz)
      have HZ := Lib.hid (And.intro hz zn)
      have HZB := Lib.hid zb
      have HZ1 := Lib.hid (show (zs.map (Value.int .i64))[j]? = some (.int .i64 z) by rw [List.getElem?_map, hz]; rfl)
      obtain ⟨B0, hB0⟩ : ∃ B0, out ++ lvP cat zs.reverse (n - (j + 1)) = B0 := ⟨_, rfl⟩
      have hl := (lvP_len cat (r := zs.reverse) (fun z hz => (HZS.out z (by simpa using hz)).2) (n - (j + 1)) (by simp; have := HN.out; omega)).2
      have HO := Lib.hid (show B0.length ≤ 6000 by rw [← hB0, List.length_append]; have := HOUT.out; omega)
      have o1 : ones (zs.reverse.take (n - (j + 1))) ≤ 16 := Nat.le_trans (ones_le _) (by rw [List.length_take]; omega)
      have g1 : lrg (zs.reverse.take (n - (j + 1))) ≤ 16 := Nat.le_trans (lrg_le _) (by rw [List.length_take]; omega)
      obtain ⟨O, hO⟩ : ∃ O, ones (zs.reverse.take (n - (j + 1))) = O := ⟨_, rfl⟩
      obtain ⟨G, hG⟩ : ∃ G, lrg (zs.reverse.take (n - (j + 1))) = G := ⟨_, rfl⟩
      obtain ⟨V, hV⟩ : ∃ V : Nat, min (z.natAbs - 1) 14 = V := ⟨_, rfl⟩
      obtain ⟨X, hX⟩ : ∃ X, cntB [lvF cat O G, lvR cat G] V (decide ((V : Int) ≠ 14)) = X := ⟨_, rfl⟩
      have hE : cutE (V : Int) 14 (lvF cat O G) (lvR cat G) = 0 := if_pos ⟨by omega, by omega, lv_ctx c0 c4 O G, by omega, by omega⟩
      have hXB : cutB (V : Int) 14 (lvF cat O G) (lvR cat G) = X := by unfold cutB; rw [if_pos hE, Int.toNat_natCast]; exact hX
      have hXl : 0 < X.length ∧ X.length ≤ 15 := by rw [← hX, cntB_length]; by_cases e : (V : Int) = 14 <;> simp [e] <;> omega
      have HC := Lib.hid (And.intro hE (And.intro hXB hXl))
      have HC0 := Lib.hid (show cntB [lvF cat (ones (zs.reverse.take (n - (j + 1)))) (lrg (zs.reverse.take (n - (j + 1)))), lvR cat (lrg (zs.reverse.take (n - (j + 1))))] (min (z.natAbs - 1) 14) (decide (((min (z.natAbs - 1) 14 : Nat) : Int) ≠ 14)) = X by rw [hO, hG, hV]; exact hX)
      have HB0 := Lib.hid hB0
      have HOG := Lib.hid (And.intro hO hG)
      rw [hB0, hO, hG] at hq
      rw [hO] at o1
      rw [hG] at g1
      obtain ⟨N, hN⟩ : ∃ N : Nat, z.natAbs = N := ⟨_, rfl⟩
      have n1 : IntKind.i64.wrap (-z) = -z := by rw [IntKind.wrap_i64]; omega
      have n2 : max z (-z) = (N : Int) := by omega
      have n3 : IntKind.i64.wrap ((N : Int) - 1) = (N : Int) - 1 := by rw [IntKind.wrap_i64]; omega
      have n4 : min ((N : Int) - 1) 14 = (V : Int) := by omega
      have n5 : IntKind.i64.wrap ((N : Int) - 15) = (N : Int) - 15 := by rw [IntKind.wrap_i64]; omega
      have jw : IntKind.i64.wrap ((j : Int) - 1) = (j : Int) - 1 := by rw [IntKind.wrap_i64]; omega
      have j0 : (0 : Int) ≤ (j : Int) := by omega
      have j1 : (j : Int) < (n : Int) := by omega
      have q1 := hq.sl_at 1 rfl HZ1.out
      obtain ⟨ng, hng⟩ : ∃ b, decide (z < 0) = b := ⟨_, rfl⟩
      obtain ⟨sg, hsg⟩ : ∃ x, b1 ng = x := ⟨_, rfl⟩
      have HS := Lib.hid hsg
      have HSG := Lib.hid (show b1 (decide (z < 0)) = sg by rw [hng]; exact hsg)
      clear hsg
      clear hz zb hB0 hl hO hG hV hX hE hXB hXl hik hk hk0 zn
      go_upto_region 4 with (fail)
      go_quiet (fail)
      replace hq := hq.drewN nq
      generalize (wr.drewN nq) = w1 at hq ⊢
      by_cases hb : 14 < z.natAbs
      · have HB := Lib.hid hb
        have zb := HZB.out
        obtain ⟨Y, hY⟩ : ∃ Y, escB (z.natAbs - 15) 0 = Y := ⟨_, rfl⟩
        obtain ⟨M, hM⟩ : ∃ M : Nat, M = N - 15 := ⟨_, rfl⟩
        have n6 : (N : Int) - 15 = (M : Int) := by omega
        have n7 : IntKind.u64.wrap (M : Int) = (M : Int) := by rw [IntKind.wrap_u64]; omega
        have n8 : IntKind.i64.wrap (M : Int) = (M : Int) := by rw [IntKind.wrap_i64]; omega
        clear n5
        have hYl : 0 < Y.length ∧ Y.length ≤ 200 := by rw [← hY]; exact escB_len _ 0 (by omega)
        have HY := Lib.hid (show M ≤ 4294967294 ∧ escB M 0 = Y ∧ 0 < Y.length ∧ Y.length ≤ 200 from ⟨by omega, by rw [hM, ← hN]; exact hY, hYl⟩)
        have HY0 := Lib.hid hY
        have bt : decide ((14 : Int) < (N : Int)) = true := by simp; omega
        have bt2 : (14 : Int) < (N : Int) := by omega
        clear hb hY hYl hM zb
        go_upto_region 7 with (first | (go_at_call 17; (with_reducible refine (level_any (hq.blk (List.mem_cons_self ..)) c0 c4 (by omega) (by omega)).mono ?_); rintro e w2 ⟨rfl, x2, rfl⟩; have h2 := hq.drewN x2) | (go_at_call 18; (with_reducible refine (cut_is h2 HC.out.1 HC.out.2.1).mono ?_); rintro e w3 ⟨v3, rfl, h3⟩; obtain ⟨g3, k3, rfl⟩ := sl_pos (h3.sl 0 rfl) HC.out.2.2.1))
        clear hq h2
        obtain ⟨spA, capA, rfl, _, _⟩ := h3.sl_form 1 at1
        go_wp2_with (first | (at_builtin; refine wpList_append_hp rfl _ _ 26 rfl 31 i0 (bvl (0, 0)) 2 16 Tryd.underlying26 hi hz0 hz1 hz2 rfl (by decide) h3 1 at1 rfl ⟨g3, 0, none⟩ X.length k3 (bcs X) rfl ?c0 ?c1 ?c2 ?c3 ?c4 ?_))
        case c0 => exact bcs_length _
        case c1 => intro j u hu; exact (addr_off0 g3 j) ▸ h3.sl_at 0 rfl hu
        case c2 => exact bcs_one _
        case c3 => have := HC.out.2.2.2; have := HO.out; unfold maxLen; omega
        case c4 => have := HC.out.2.2.2; have := HO.out; omega
        intro v4 w4 h4
        try simp only [set1] at h4
        replace h4 := (bn_cat h4.tail)
        obtain ⟨B1, hB1⟩ : ∃ B1, B1 = B0 ++ X := ⟨_, rfl⟩
        rw [← hB1] at h4
        have HB1 := Lib.hid hB1
        have HO1 := Lib.hid (show B1.length ≤ 6100 by rw [hB1, List.length_append]; have := HC.out.2.2.2; have := HO.out; omega)
        clear hB1
        clear h3
        obtain ⟨spB, capB, rfl, _, _⟩ := h4.sl_form 0 at0
        go_upto_region 10 with (first | (go_at_call 19; (with_reducible refine (esc_is (N := M) h4 rfl HY.out.1 HY.out.2.1).mono ?_); rintro e w5 ⟨v5, rfl, h5⟩; obtain ⟨g5, k5, rfl⟩ := sl_pos (h5.sl 0 rfl) HY.out.2.2.1))
        go_wp2_with (first | (at_builtin; refine wpList_append_hp rfl _ _ 26 rfl 31 i0 (bvl (0, 0)) 2 16 Tryd.underlying26 hi hz0 hz1 hz2 rfl (by decide) h5 1 at1 rfl ⟨g5, 0, none⟩ Y.length k5 (bcs Y) rfl ?c0 ?c1 ?c2 ?c3 ?c4 ?_))
        case c0 => exact bcs_length _
        case c1 => intro j u hu; exact (addr_off0 g5 j) ▸ h5.sl_at 0 rfl hu
        case c2 => exact bcs_one _
        case c3 => have := HO1.out; have := HY.out.2.2.2; unfold maxLen; omega
        case c4 => have := HO1.out; have := HY.out.2.2.2; omega
        intro v6 w6 h6
        try simp only [set1] at h6
        replace h6 := (bn_cat h6.tail)
        obtain ⟨B2, hB2⟩ : ∃ B2, B2 = B1 ++ Y := ⟨_, rfl⟩
        rw [← hB2] at h6
        have HB2 := Lib.hid hB2
        have HO2 := Lib.hid (show B2.length ≤ 6400 by rw [hB2, List.length_append]; have := HY.out.2.2.2; have := HO1.out; omega)
        clear hB2
        clear h4 h5
        obtain ⟨spC, capC, rfl, _, _⟩ := h6.sl_form 0 at0
        have q2 := h6.sl_at 1 rfl HZ1.out
        clear q1
        go_wp2_with (first | (go_at_call 13; (with_reducible refine (flag_is h6 (-1) HS.out).mono ?_); rintro e w7 ⟨rfl, h7⟩) | (at_builtin; refine wpList_append_hp rfl _ _ 26 rfl 31 i0 (bvl (0, 0)) 2 16 Tryd.underlying26 hi hz0 hz1 hz2 rfl (by decide) (h7.lost _) 0 at0 rfl ⟨w7.heap.size, 0, none⟩ 1 1 (bcs [(-1, sg)]) rfl ?c0 ?c1 ?c2 ?c3 ?c4 ?_))
        case c0 => rfl
        case c1 => exact bin_new _ _ _ _
        case c2 => exact bcs_one _
        case c3 => have := HO2.out; unfold maxLen; omega
        case c4 => have := HO2.out; omega
        intro v8 w8 h8
        try simp only [set0] at h8
        replace h8 := (bn_cat1 h8)
        clear h7 h6 q2
        have q3 := h8.sl_at 1 rfl HZ1.out
        go_wp2_with (first | (go_at_call 20; (with_reducible refine (came_any h8 (by omega) (by omega) z).mono ?_); rintro e w9 ⟨⟨v9, rfl⟩, h9⟩))
        go_roundw
        case rel =>
          refine ⟨j, (j : Int) - 1, by go_num, rfl, by omega, ?_⟩
          have e := lv_step (cat := cat) (out := out) HN.out hj HZ.out.1 HB.out
          rw [HB0.out, HY0.out, HC0.out, HSG.out] at e
          rw [HB2.out, HB1.out, e] at h9
          rw [← HOG.out.1, ← HOG.out.2] at h9
          exact cx_step HN.out hj HZ.out.1 h9
        case measure => simp [intOf]
      · have HB := Lib.hid hb
        have bt : decide ((14 : Int) < (N : Int)) = false := by simp; omega
        have bt2 : ¬ (14 : Int) < (N : Int) := by omega
        clear hb
        go_upto_region 7 with (first | (go_at_call 17; (with_reducible refine (level_any (hq.blk (List.mem_cons_self ..)) c0 c4 (by omega) (by omega)).mono ?_); rintro e w2 ⟨rfl, x2, rfl⟩; have h2 := hq.drewN x2) | (go_at_call 18; (with_reducible refine (cut_is h2 HC.out.1 HC.out.2.1).mono ?_); rintro e w3 ⟨v3, rfl, h3⟩; obtain ⟨g3, k3, rfl⟩ := sl_pos (h3.sl 0 rfl) HC.out.2.2.1))
        clear hq h2
        obtain ⟨spA, capA, rfl, _, _⟩ := h3.sl_form 1 at1
        go_wp2_with (first | (at_builtin; refine wpList_append_hp rfl _ _ 26 rfl 31 i0 (bvl (0, 0)) 2 16 Tryd.underlying26 hi hz0 hz1 hz2 rfl (by decide) h3 1 at1 rfl ⟨g3, 0, none⟩ X.length k3 (bcs X) rfl ?c0 ?c1 ?c2 ?c3 ?c4 ?_))
        case c0 => exact bcs_length _
        case c1 => intro j u hu; exact (addr_off0 g3 j) ▸ h3.sl_at 0 rfl hu
        case c2 => exact bcs_one _
        case c3 => have := HC.out.2.2.2; have := HO.out; unfold maxLen; omega
        case c4 => have := HC.out.2.2.2; have := HO.out; omega
        intro v4 w4 h4
        try simp only [set1] at h4
        replace h4 := (bn_cat h4.tail)
        obtain ⟨B1, hB1⟩ : ∃ B1, B1 = B0 ++ X := ⟨_, rfl⟩
        rw [← hB1] at h4
        have HB1 := Lib.hid hB1
        have HO1 := Lib.hid (show B1.length ≤ 6100 by rw [hB1, List.length_append]; have := HC.out.2.2.2; have := HO.out; omega)
        clear hB1
        clear h3
        obtain ⟨spB, capB, rfl, _, _⟩ := h4.sl_form 0 at0
        have q2 := h4.sl_at 1 rfl HZ1.out
        clear q1
        go_wp2_with (first | (go_at_call 13; (with_reducible refine (flag_is h4 (-1) HS.out).mono ?_); rintro e w7 ⟨rfl, h7⟩) | (at_builtin; refine wpList_append_hp rfl _ _ 26 rfl 31 i0 (bvl (0, 0)) 2 16 Tryd.underlying26 hi hz0 hz1 hz2 rfl (by decide) (h7.lost _) 0 at0 rfl ⟨w7.heap.size, 0, none⟩ 1 1 (bcs [(-1, sg)]) rfl ?c0 ?c1 ?c2 ?c3 ?c4 ?_))
        case c0 => rfl
        case c1 => exact bin_new _ _ _ _
        case c2 => exact bcs_one _
        case c3 => have := HO1.out; unfold maxLen; omega
        case c4 => have := HO1.out; omega
        intro v8 w8 h8
        try simp only [set0] at h8
        replace h8 := (bn_cat1 h8)
        clear h7 h4 q2
        have q3 := h8.sl_at 1 rfl HZ1.out
        go_wp2_with (first | (go_at_call 20; (with_reducible refine (came_any h8 (by omega) (by omega) z).mono ?_); rintro e w9 ⟨⟨v9, rfl⟩, h9⟩))
        go_roundw
        case rel =>
          refine ⟨j, (j : Int) - 1, by go_num, rfl, by omega, ?_⟩
          have e := lv_step0 (cat := cat) (out := out) HN.out hj HZ.out.1 HB.out
          rw [HB0.out, HC0.out, HSG.out] at e
          rw [HB1.out, e] at h9
          rw [← HOG.out.1, ← HOG.out.2] at h9
          exact cx_step HN.out hj HZ.out.1 h9
        case measure => simp [intOf]
end Go.Proofs.YtchoiimmcgkimaaDoor
