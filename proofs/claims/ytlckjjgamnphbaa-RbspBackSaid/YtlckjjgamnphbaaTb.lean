/- The walk of RbspBack. -/
import Derived.Test.YtlckjjgamnphbaaTw
namespace Go.Proofs.Ytlckjjgamnphbaa
open Go.RowKit
set_option linter.unusedVariables false
set_option maxRecDepth 100000
set_option linter.unusedSimpArgs false

def zstr (z : Nat) : ByteArray := ⟨(List.replicate z (0 : UInt8)).toArray⟩
theorem sbits_zstr (z : Nat) : sbits (zstr z) = List.replicate (8 * z) false := by
  show sbitsL (List.replicate z (0 : UInt8)) = _
  induction z with
  | zero => rfl
  | succ z ih =>
    rw [List.replicate_succ, sbitsL_cons, ih, show 8 * (z + 1) = 8 + 8 * z by omega, ← List.replicate_append_replicate]
    rfl
theorem sbits_app' (a b : ByteArray) : sbits (a ++ b) = sbits a ++ sbits b := by
  unfold sbits
  rw [← sbitsL_append]
  congr 1
theorem app_size' (a b : ByteArray) : (a ++ b).size = a.size + b.size := by simp
theorem zstr_size (z : Nat) : (zstr z).size = z := by
  show (List.replicate z (0 : UInt8)).toArray.size = z
  simp
theorem conv_zeros (w : World) (z : Nat) :
    (convert 52 9 (.slice (some ⟨w.heap.size, 0, none⟩) z z)).run Try.prog (w.alloc (.cells (madeCells #[.int .u8 0] z) 5 (0, 0))) = .ok (.string (zstr z)) (w.alloc (.cells (madeCells #[.int .u8 0] z) 5 (0, 0))) := by
  rw [made_bytes]
  have := run_convert_bytes_back (P := Try.prog) (w.alloc (.cells ((List.replicate z (0 : UInt8)).map bv).toArray 5 (0, 0))) 52 9 5 ⟨w.heap.size, 0, none⟩ z (List.replicate z 0) Try.underlying52 Try.underlying5 Try.underlying9 (fun j hj => by
    rw [addr_add, World.cell?_alloc_mark]
    simp at hj
    simp [bv, hj])
  rw [List.length_replicate] at this
  exact this

theorem stp_less {s : ByteArray} {i K : Nat} (hi : i ≤ K) : ∀ n, stp s K n = (K : Int) → stp s i n = (K : Int)
  | 0, h => by unfold stp at h; omega
  | n + 1, h => by
    unfold stp at h ⊢
    by_cases c : n < K
    · rw [if_pos c] at h; omega
    · rw [if_neg c] at h
      rw [if_neg (by omega)]
      by_cases c1 : bt s n = 1
      · rw [if_pos c1] at h ⊢; exact h
      · rw [if_neg c1] at h ⊢; exact stp_less hi n h
theorem bt_of {s : ByteArray} {B R : List Bool} {x : Bool} (h : sbits s = B ++ x :: R) : bt s B.length = x.toNat := by
  unfold bt
  rw [h]
  have := seg_append_right B (x :: R) 0 1
  rw [Nat.add_zero] at this
  rw [this]
  simp [seg, natB]
theorem zR_of {s : ByteArray} {B : List Bool} {x : Bool} {m : Nat} (h : sbits s = B ++ x :: List.replicate m false) : zR s (B.length + 1) = true := by
  unfold zR zB
  have hl := congrArg List.length h
  rw [sbits_length, List.length_append, List.length_cons, List.length_replicate] at hl
  rw [show 8 * s.size - (B.length + 1) = m by omega, decide_eq_true_iff, h, show B ++ x :: List.replicate m false = (B ++ [x]) ++ List.replicate m false by simp]
  have := seg_append_right (B ++ [x]) (List.replicate m false) 0 m
  rw [Nat.add_zero, List.length_append, List.length_singleton] at this
  rw [this]
  have e : seg (List.replicate m false) 0 m = bitsN m 0 := by rw [bitsN_zero]; simp [seg]
  rw [e, natB_bitsN]
  simp
/-- A string whose last bit 1 is at K. -/
theorem stop_at {s : ByteArray} {B : List Bool} {m : Nat} (h : sbits s = B ++ true :: List.replicate m false) {i : Nat} (hi : i ≤ B.length) : stp s i (8 * s.size) = (B.length : Int) := by
  have hl := congrArg List.length h
  rw [sbits_length, List.length_append, List.length_cons, List.length_replicate] at hl
  exact stp_less hi _ ((stp_at (by omega) (bt_of h) (by omega)).2 (zR_of h))
theorem back_law {s : ByteArray} {B : List Bool} {m : Nat} (h : sbits s = B ++ true :: List.replicate m false) {i : Nat} (hi : i ≤ B.length) :
    mrE s i = 0 ∧ mrV s i = decide (i < B.length) ∧ (i < B.length → ∀ wd, enE s i wd = 4 ∧ enI s i wd = i) ∧ (i = B.length → ∀ wd, enE s i wd = if m / 8 % 2 = 0 ∧ (wd = false → m / 8 = 0) then 0 else 4) := by
  have hl := congrArg List.length h
  rw [sbits_length, List.length_append, List.length_cons, List.length_replicate] at hl
  have hst := stop_at h hi
  have hm := (stp_more (s := s) (i := i) (by omega)).2 (by rw [hst]; omega)
  have he := stp_end (s := s) (i := i) (by omega)
  rw [hst] at hm he
  refine ⟨hm.1, by rw [hm.2, Bool.eq_iff_iff]; simp; omega, fun hlt wd => ?_, fun heq wd => ?_⟩
  · have hg : enG s i = false := by cases hq : enG s i with | false => rfl | true => exact absurd (he.2 hq) (by omega)
    have e := enG_no (wd := wd) hg (by omega)
    exact ⟨e, by unfold enI; rw [if_neg (by rw [e]; decide)]⟩
  · have hg := he.1 (by omega)
    unfold enE
    rw [if_neg (by omega), hg, show 8 * s.size - i - 1 = m by omega]
    simp
theorem pad_mod {K : Nat} : (8 - (K + (8 - K % 8)) % 8) % 8 = 0 := by omega
theorem last_byte {T : ByteArray} {B : List Bool} {q : Nat} (h : sbits T = B ++ trB B.length) (hq : q = B.length / 8) (hT : T.size = q + 1) (hx : q < T.size) : ¬ (T[q]'hx).toNat = 0 := by
  intro hz
  have hb : bt T B.length = 1 := by
    have := bt_of (s := T) (B := B) (x := true) (R := List.replicate (7 - B.length % 8) false) (by rw [h, trB_eq])
    exact this
  unfold bt at hb
  have e := natB_seg_one T B.length (by omega)
  rw [hb] at e
  have e2 : (T[B.length / 8]'(by omega)).toNat = 0 := by
    subst hq; exact hz
  rw [e2] at e
  simp at e

set_option maxHeartbeats 4000000 in
theorem tback_walk (s : ByteArray) (n z0 : Int) (h0 : 0 ≤ n) (h9 : n ≤ 65535) (y0 : 0 ≤ z0) (y9 : z0 ≤ 255) (W : World) :
    Calls Try.prog 6 #[.string s, .int .u16 n, .int .u8 z0] W fun e w' => e = .returned (.bool true) ∧ Below W.heap.size W w' := by
  have hS := Hp.start W
  by_cases hs : s.size ≤ 300
  · have hs48 : s.size ≤ 2 ^ 48 := by omega
    have hs36 : s.size ≤ 2 ^ 36 := by omega
    have hsd : decide (300 < s.size) = false := by simp; omega
    obtain ⟨K, hK, hK8⟩ := mod_cast_ex (s := s) h0
    have HK := Lib.hid hK; clear hK
    have hlK : (seg (sbits s) 0 K).length = K := seg_length (by rw [sbits_length]; omega)
    obtain ⟨B, hB⟩ : ∃ B, B = seg (sbits s) 0 K := ⟨_, rfl⟩
    have hBK : B.length = K := by rw [hB, hlK]
    obtain ⟨X, hX⟩ : ∃ X, X = B ++ trB B.length := ⟨_, rfl⟩
    have hXl : X.length = K + (8 - K % 8) := by rw [hX, List.length_append, trB_eq, List.length_cons, List.length_replicate, hBK]; omega
    obtain ⟨N, hN⟩ : ∃ N, N = X.length := ⟨_, rfl⟩
    have hl40 : B.length ≤ 2 ^ 40 := by omega
    have hl2 : X.length ≤ 2 ^ 41 := by omega
    have hN1 : K < N := by omega
    have hN2 : N ≤ K + 8 := by omega
    have hN3 : (N : Int) % 8 = 0 := by omega
    obtain ⟨T, hT⟩ : ∃ T, T = pstr X := ⟨_, rfl⟩
    have hTs : T.size = K / 8 + 1 := by rw [hT, pstr_size, hXl]; omega
    have hTb : sbits T = B ++ trB B.length := by
      rw [hT, sbits_pstr, hXl, pad_mod, hX]; simp
    obtain ⟨z, hz⟩ : ∃ z : Nat, z0 % 21 = (z : Int) := ⟨(z0 % 21).toNat, by omega⟩
    have hz20 : z ≤ 20 := by omega
    obtain ⟨S, hSe⟩ : ∃ S, S = T ++ zstr z := ⟨_, rfl⟩
    have hSz : S.size = K / 8 + 1 + z := by rw [hSe, app_size', hTs, zstr_size]
    have hSb : sbits S = B ++ true :: List.replicate (7 - K % 8 + 8 * z) false := by
      rw [hSe, sbits_app', hTb, sbits_zstr, trB_eq, hBK, List.append_assoc, List.cons_append, List.replicate_append_replicate]
    have hS48 : S.size ≤ 2 ^ 48 := by omega
    have hlast : (((T[K / 8]'(by omega)).toNat : Int) == 0) = false := by
      have := last_byte hTb (by rw [hBK]) hTs (by omega)
      simp; omega
    have hlaw := fun (i : Nat) (h : i ≤ B.length) => back_law hSb h
    have hm8 : (7 - K % 8 + 8 * z) / 8 = z := by omega
    rw [hm8, hBK] at hlaw
    have LAW := Lib.hid hlaw; clear hlaw hm8
    have E := Lib.hid (And.intro hB (And.intro hX.symm (And.intro hN hT.symm))); clear hB hX hN hT hlK hXl hBK
    have ES := Lib.hid (And.intro hSe hSb); clear hSe hSb hTb
    have hT0 : T.toList.isEmpty = false := by
      rw [Lib.toList_data]
      cases hq : T.data.toList with
      | nil => have : T.size = 0 := by show T.data.size = 0; rw [← Array.length_toList, hq]; rfl
               omega
      | cons => rfl
    obtain ⟨ti, ti1, ti2, ti3, ti4⟩ := u8_info
    have hmk : ∀ W' : World, (Instr.makeSlice 52 (.int .i64 z) (.int .i64 z)).run Try.prog W' = .ok (.slice (some ⟨W'.heap.size, 0, none⟩) z z) (W'.alloc (.cells (madeCells #[.int .u8 0] z) 5 (0, 0))) := fun W' => by
      have := run_make (P := Try.prog) W' 52 5 ti (.int .u8 0) Try.underlying52 ti1 ti2 .i64 .i64 z z (by omega) (Int.le_refl _) (by rw [ti4]; omega) (by omega)
      rw [ti3] at this
      simpa [Value.cells] using this
    have hcv := fun w => conv_zeros w z
    have hzs := zstr_size z
    clear ti1 ti2 ti3 ti4
    by_cases hK20 : K ≤ 20
    all_goals
      go_enter Try.func6, Try.ntmps6
      go_wp2_with (first | (go_at_call 18; (with_reducible refine (lwritten_any hS s hs36 n h0 h9 HK.out).mono ?_); rintro e w1 ⟨wb, r0, rfl, h1⟩; rw [← E.out.1] at h1; clear hS) | (go_at_call 15; (with_reducible refine (trail_as h1 0 at0 hl40 E.out.2.1).mono ?_); rintro e w1 ⟨rfl, h2⟩; simp only [set0] at h2; clear h1) | (go_at_call 24; (with_reducible refine (len_is h2 0 at0 hl2 E.out.2.2.1).mono ?_); rintro e w1 ⟨rfl, h3⟩; clear h2) | (go_at_call 24; (with_reducible refine (len_is h3 0 at0 hl2 E.out.2.2.1).mono ?_); rintro e w1 ⟨rfl, h4⟩; clear h3) | (go_at_call 24; (with_reducible refine (len_is h4 0 at0 hl2 E.out.2.2.1).mono ?_); rintro e w1 ⟨rfl, h5⟩; clear h4) | (go_at_call 16; (with_reducible refine (bytes_eq h5 0 at0 hl2 E.out.2.2.2).mono ?_); rintro e w1 ⟨rfl, h6⟩; clear h5))
      have h7 := h6.lost (.cells (madeCells #[.int .u8 0] z) 5 (0, 0))
      have H7 := Lib.hid h7
      have hlast2 := Lib.hid hlast
      clear h6 h7 hmk hcv hlast hT0 hzs
      simp only [← ES.out.1]
      try simp only [hz]
      have HZ := Lib.hid hz
      clear hz
      go_loopw [12] (fun i wr => ∃ c : Nat, i = .int .i64 c ∧ c ≤ K + 1 ∧ Hp W wr [aWr wb X, aRd r0 s K] []) (fun i _ => K + 1 - (intOf i).toNat)
      case atStart => first | exact ⟨0, rfl, by omega, H7.out⟩ | exact ⟨K - 20, ret_i64 (by omega), by omega, H7.out⟩
      case round =>
        obtain ⟨c, rfl, hc, g⟩ := hrel
        by_cases hlt : c ≤ K
        · obtain ⟨l1, l2, l3, l4⟩ := LAW.out c hlt
          have hc8 : c ≤ 8 * S.size := by omega
          obtain ⟨j1, hj1⟩ : ∃ j, enI S c false = j := ⟨_, rfl⟩
          obtain ⟨j2, hj2⟩ : ∃ j, enI S c true = j := ⟨_, rfl⟩
          by_cases hcK : c < K
          · have d1 : decide (c < K) = true := by simpa using hcK
            have d2 : ((c : Int) == (K : Int)) = false := by simp; omega
            rw [d1] at l2
            have e1 := (l3 hcK false).1
            obtain ⟨e2, e3⟩ := l3 hcK true
            have M := Lib.hid (And.intro l2 l1)
            have E1 := Lib.hid (And.intro e1 hj1)
            have E2 := Lib.hid (And.intro e2 e3)
            have Y := Lib.hid (rfl : (0 : Nat) = 0)
            clear l1 l2 l3 l4 e1 e2 e3 hj1 hj2 hcK
            go_wp2_with (first | (go_at_call 19; (with_reducible refine (lskip_any g S hS48 c hc8).mono ?_); rintro e w1 ⟨rb, rfl, g1⟩; clear g) | (go_at_call 11; (with_reducible refine (more_as g1 0 at0 M.out).mono ?_); rintro e w1 ⟨rfl, g2⟩; clear g1) | (go_at_call 21; (with_reducible refine (pos_any g2 0 at0).mono ?_); rintro e w1 ⟨rfl, rfl⟩) | (go_at_call 10; (with_reducible refine (copy_any g2 0 at0).mono ?_); rintro e w1 ⟨c2, rfl, g3⟩; clear g2) | (go_at_call 12; (with_reducible refine (end_as g3 0 at0 false E1.out).mono ?_); rintro e w1 ⟨rfl, g4⟩; simp only [set0] at g4; clear g3) | (go_at_call 12; (with_reducible refine (end_as g4 1 at1 true E2.out).mono ?_); rintro e w1 ⟨rfl, g5⟩; simp only [set1] at g5; clear g4) | (go_at_call 25; (with_reducible refine (left_as g5 1 at1 Y.out).mono ?_); rintro e w1 ⟨rfl, g6⟩; clear g5) | (go_at_call 21; (with_reducible refine (pos_any g5 1 at1).mono ?_); rintro e w1 ⟨rfl, rfl⟩))
            go_roundw
            case rel => exact ⟨c + 1, by go_num, by omega, g5.tail.tail⟩
            case measure => simp [intOf] <;> omega
          · obtain rfl : c = K := by omega
            have d1 : decide (c < c) = false := by simp
            have l2' : mrV S c = false := by rw [l2]; exact d1
            have l4 := l4 rfl
            have M := Lib.hid (And.intro l2' l1)
            by_cases hz0 : z = 0
            · have e1 : enE S c false = 0 := by rw [l4, if_pos ⟨by omega, fun _ => hz0⟩]
              have e2 : enE S c true = 0 := by rw [l4, if_pos ⟨by omega, fun h => by cases h⟩]
              have e3 : enI S c true = 8 * S.size := by unfold enI; rw [if_pos e2]
              have E1 := Lib.hid (And.intro e1 hj1)
              have E2 := Lib.hid (And.intro e2 e3)
              have Y := Lib.hid (show 0 = 8 * S.size - 8 * S.size by omega)
              have z1 : ((z : Int) == 0) = true := by simp; omega
              have z2 : ((z : Int) % 2 == 0) = true := by simp; omega
              clear l1 l2 l2' l3 l4 e1 e2 e3 hj1 hj2 hcK hz0
              go_wp2_with (first | (go_at_call 19; (with_reducible refine (lskip_any g S hS48 c hc8).mono ?_); rintro e w1 ⟨rb, rfl, g1⟩; clear g) | (go_at_call 11; (with_reducible refine (more_as g1 0 at0 M.out).mono ?_); rintro e w1 ⟨rfl, g2⟩; clear g1) | (go_at_call 21; (with_reducible refine (pos_any g2 0 at0).mono ?_); rintro e w1 ⟨rfl, rfl⟩) | (go_at_call 10; (with_reducible refine (copy_any g2 0 at0).mono ?_); rintro e w1 ⟨c2, rfl, g3⟩; clear g2) | (go_at_call 12; (with_reducible refine (end_as g3 0 at0 false E1.out).mono ?_); rintro e w1 ⟨rfl, g4⟩; simp only [set0] at g4; clear g3) | (go_at_call 12; (with_reducible refine (end_as g4 1 at1 true E2.out).mono ?_); rintro e w1 ⟨rfl, g5⟩; simp only [set1] at g5; clear g4) | (go_at_call 25; (with_reducible refine (left_as g5 1 at1 Y.out).mono ?_); rintro e w1 ⟨rfl, g6⟩; clear g5) | (go_at_call 21; (with_reducible refine (pos_any g5 1 at1).mono ?_); rintro e w1 ⟨rfl, rfl⟩))
              go_roundw
              case rel => exact ⟨c + 1, by go_num, by omega, g6.tail.tail⟩
              case measure => simp [intOf] <;> omega
            · have e1 : enE S c false = 4 := by rw [l4, if_neg (fun h => hz0 (h.2 rfl))]
              have z1 : ((z : Int) == 0) = false := by simp; omega
              by_cases hz2 : z % 2 = 0
              · have e2 : enE S c true = 0 := by rw [l4, if_pos ⟨hz2, fun h => by cases h⟩]
                have e3 : enI S c true = 8 * S.size := by unfold enI; rw [if_pos e2]
                have E1 := Lib.hid (And.intro e1 hj1)
                have E2 := Lib.hid (And.intro e2 e3)
                have Y := Lib.hid (show 0 = 8 * S.size - 8 * S.size by omega)
                have z2 : ((z : Int) % 2 == 0) = true := by simp; omega
                clear l1 l2 l2' l3 l4 e1 e2 e3 hj1 hj2 hcK hz0 hz2
                go_wp2_with (first | (go_at_call 19; (with_reducible refine (lskip_any g S hS48 c hc8).mono ?_); rintro e w1 ⟨rb, rfl, g1⟩; clear g) | (go_at_call 11; (with_reducible refine (more_as g1 0 at0 M.out).mono ?_); rintro e w1 ⟨rfl, g2⟩; clear g1) | (go_at_call 21; (with_reducible refine (pos_any g2 0 at0).mono ?_); rintro e w1 ⟨rfl, rfl⟩) | (go_at_call 10; (with_reducible refine (copy_any g2 0 at0).mono ?_); rintro e w1 ⟨c2, rfl, g3⟩; clear g2) | (go_at_call 12; (with_reducible refine (end_as g3 0 at0 false E1.out).mono ?_); rintro e w1 ⟨rfl, g4⟩; simp only [set0] at g4; clear g3) | (go_at_call 12; (with_reducible refine (end_as g4 1 at1 true E2.out).mono ?_); rintro e w1 ⟨rfl, g5⟩; simp only [set1] at g5; clear g4) | (go_at_call 25; (with_reducible refine (left_as g5 1 at1 Y.out).mono ?_); rintro e w1 ⟨rfl, g6⟩; clear g5) | (go_at_call 21; (with_reducible refine (pos_any g5 1 at1).mono ?_); rintro e w1 ⟨rfl, rfl⟩))
                go_roundw
                case rel => exact ⟨c + 1, by go_num, by omega, g6.tail.tail⟩
                case measure => simp [intOf] <;> omega
              · have e2 : enE S c true = 4 := by rw [l4, if_neg (fun h => hz2 h.1)]
                have e3 : enI S c true = c := by unfold enI; rw [if_neg (by rw [e2]; decide)]
                have E1 := Lib.hid (And.intro e1 hj1)
                have E2 := Lib.hid (And.intro e2 e3)
                have Y := Lib.hid (show 0 = 8 * S.size - 8 * S.size by omega)
                have z2 : ((z : Int) % 2 == 0) = false := by simp; omega
                clear l1 l2 l2' l3 l4 e1 e2 e3 hj1 hj2 hcK hz0 hz2
                go_wp2_with (first | (go_at_call 19; (with_reducible refine (lskip_any g S hS48 c hc8).mono ?_); rintro e w1 ⟨rb, rfl, g1⟩; clear g) | (go_at_call 11; (with_reducible refine (more_as g1 0 at0 M.out).mono ?_); rintro e w1 ⟨rfl, g2⟩; clear g1) | (go_at_call 21; (with_reducible refine (pos_any g2 0 at0).mono ?_); rintro e w1 ⟨rfl, rfl⟩) | (go_at_call 10; (with_reducible refine (copy_any g2 0 at0).mono ?_); rintro e w1 ⟨c2, rfl, g3⟩; clear g2) | (go_at_call 12; (with_reducible refine (end_as g3 0 at0 false E1.out).mono ?_); rintro e w1 ⟨rfl, g4⟩; simp only [set0] at g4; clear g3) | (go_at_call 12; (with_reducible refine (end_as g4 1 at1 true E2.out).mono ?_); rintro e w1 ⟨rfl, g5⟩; simp only [set1] at g5; clear g4) | (go_at_call 25; (with_reducible refine (left_as g5 1 at1 Y.out).mono ?_); rintro e w1 ⟨rfl, g6⟩; clear g5) | (go_at_call 21; (with_reducible refine (pos_any g5 1 at1).mono ?_); rintro e w1 ⟨rfl, rfl⟩))
                go_roundw
                case rel => exact ⟨c + 1, by go_num, by omega, g5.tail.tail⟩
                case measure => simp [intOf] <;> omega
        · obtain rfl : c = K + 1 := by omega
          go_wp2_with (first | (go_at_call 17; (with_reducible refine (tknown_any g).mono ?_); rintro e w1 ⟨rfl, g2⟩))
          exact bodyPost_ret (results_tmp rfl _ _ _) rfl ⟨rfl, g2.below⟩
  · have hsd : decide (300 < s.size) = true := by simp; omega
    go_enter Try.func6, Try.ntmps6
    go_wp2_with (first | (go_at_call 17; (with_reducible refine (tknown_any hS).mono ?_); rintro e w1 ⟨rfl, h5⟩))
    exact bodyPost_ret (results_tmp rfl _ _ _) rfl ⟨rfl, h5.below⟩

end Go.Proofs.Ytlckjjgamnphbaa
