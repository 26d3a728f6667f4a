/- The walk of RbspMore. -/
import Derived.Test.YtlckjjgamnphbaaTo
import Derived.Deep.LoopGhost
namespace Go.Proofs.Ytlckjjgamnphbaa
open Go.RowKit
set_option linter.unusedVariables false
set_option maxRecDepth 100000
set_option linter.unusedSimpArgs false

theorem stp_next {s : ByteArray} {K p : Nat} (h : K ≤ p) : stp s K (p + 1) = if bt s p = 1 then (p : Int) else stp s K p := by
  show (if p < K then _ else _) = _
  rw [if_neg (by omega)]
theorem stp_self (s : ByteArray) (K : Nat) : stp s K K = -1 := by
  cases K with
  | zero => rfl
  | succ m => show (if m < m + 1 then _ else _) = _; rw [if_pos (by omega)]
theorem enG_no {s : ByteArray} {K : Nat} {wd : Bool} (h : enG s K = false) (hi : K < 8 * s.size) : enE s K wd = 4 := by
  unfold enE; rw [if_neg (by omega), if_neg (fun hx => by rw [h] at hx; exact absurd hx.1 (by decide))]

set_option maxHeartbeats 2000000 in
theorem tmore_walk (s : ByteArray) (n : Int) (h0 : 0 ≤ n) (h9 : n ≤ 65535) (W : World) :
    Calls Try.prog 7 #[.string s, .int .u16 n] W fun e w' => e = .returned (.bool true) ∧ Below W.heap.size W w' := by
  have hS := Hp.start W
  by_cases hs : s.size ≤ 100
  · have hs48 : s.size ≤ 2 ^ 48 := by omega
    have hsd : decide (100 < s.size) = false := by simp; omega
    obtain ⟨K, hK, hK8⟩ := mod_cast_ex (s := s) h0
    go_enter Try.func7, Try.ntmps7
    go_wp2_with (first | (go_at_call 19; (try simp only [hK]); (with_reducible refine (lskip_any hS s hs48 K hK8).mono ?_); rintro e w1 ⟨rb, rfl, h1⟩; clear hS) | (go_at_call 10; (with_reducible refine (copy_any h1 0 at0).mono ?_); rintro e w1 ⟨cb, rfl, h2⟩; clear h1))
    try simp only [hK]
    have H3 := Lib.hid h2
    clear h2 hK
    go_loopg [7, 8, 10] (8 * s.size - K) (fun gg o' l' i' wr => ∃ p o : Nat, ∃ E : Int, gg = 8 * s.size - p ∧ K ≤ p ∧ p ≤ 8 * s.size ∧ i' = .int .i64 p ∧ o' = .int .i64 o ∧ l' = .int .i64 E ∧ Hid (E = stp s K p ∧ (o = 0 ↔ stp s K p = -1)) ∧ o ≤ 8 * s.size ∧ o ≤ p ∧ Hp W wr [aRd cb s p, aRd rb s K] [])
    case atStart => exact ⟨K, 0, -1, rfl, Nat.le_refl _, hK8, rfl, rfl, rfl, Lib.hid ⟨(stp_self s K).symm, by simp [stp_self]⟩, Nat.zero_le _, Nat.zero_le _, H3.out⟩
    case round =>
      obtain ⟨p, o, E, rfl, g0, g1, rfl, rfl, rfl, hE, go, gop, g⟩ := hrel
      obtain ⟨l, hl⟩ : ∃ l, l = 8 * s.size - p := ⟨_, rfl⟩
      have hl8 : l ≤ 800 := by omega
      by_cases hp : p < 8 * s.size
      · have hl0 : 0 < l := by omega
        have Y := Lib.hid hl; clear hl
        have hb := bt_le s p
        obtain ⟨V, hV⟩ : ∃ V, V = bt s p := ⟨_, rfl⟩
        rw [← hV] at hb
        have hn := stp_next (s := s) g0
        rw [← hV] at hn
        have hb2 : V = 0 ∨ V = 1 := by omega
        clear hb
        rcases hb2 with rfl | rfl
        · rw [if_neg (by decide)] at hn
          have B := Lib.hid (And.intro hV hn); clear hV hn
          go_wp2_with (first | (go_at_call 25; (with_reducible refine (left_as g 0 at0 Y.out).mono ?_); rintro e w1 ⟨rfl, g2⟩; clear g) | (go_at_call 26; (with_reducible refine (bit_in g2 0 at0 hp B.out.1).mono ?_); rintro e w1 ⟨rfl, g3⟩; simp only [set0] at g3; clear g2))
          go_roundg (8 * s.size - (p + 1))
          case measure => omega
          case rel => exact ⟨p + 1, o, E, rfl, by omega, by omega, by go_num, rfl, rfl, Lib.hid (by rw [B.out.2]; exact hE.out), go, by omega, g3⟩
        · rw [if_pos rfl] at hn
          have B := Lib.hid (And.intro hV hn); clear hV hn
          go_wp2_with (first | (go_at_call 25; (with_reducible refine (left_as g 0 at0 Y.out).mono ?_); rintro e w1 ⟨rfl, g2⟩; clear g) | (go_at_call 26; (with_reducible refine (bit_in g2 0 at0 hp B.out.1).mono ?_); rintro e w1 ⟨rfl, g3⟩; simp only [set0] at g3; clear g2))
          go_roundg (8 * s.size - (p + 1))
          case measure => omega
          case rel => exact ⟨p + 1, o + 1, p, rfl, by omega, by omega, by go_num, by go_num, rfl, Lib.hid (by rw [B.out.2]; exact ⟨rfl, ⟨fun h => by omega, fun h => by omega⟩⟩), by omega, by omega, g3⟩
      · obtain rfl : p = 8 * s.size := by omega
        obtain ⟨hE1, hE2⟩ := hE.out
        rw [← hE1] at hE2
        obtain rfl : l = 0 := by omega
        have Y := Lib.hid hl; clear hl
        have hm := stp_more hK8
        have hge := stp_ge s K (8 * s.size)
        have hEl := stp_lt s K (8 * s.size)
        rw [← hE1] at hm hge hEl
        have hen := fun (h : K < 8 * s.size) => stp_end (s := s) (i := K) h
        rw [← hE1] at hen
        clear hE hp go gop
        obtain ⟨j1, hj1⟩ : ∃ j, enI s K false = j := ⟨_, rfl⟩
        obtain ⟨j2, hj2⟩ : ∃ j, enI s K true = j := ⟨_, rfl⟩
        obtain ⟨y2, hy2⟩ : ∃ y, enE s K true = y := ⟨_, rfl⟩
        by_cases c1 : E < 0
        · have m1 := hm.1.1 c1
          have m2 : mrV s K = false := by unfold mrV; rw [if_neg (by rw [m1]; decide)]
          have ho : o = 0 := hE2.2 (by omega)
          have n1 : enE s K false = 4 ∨ enE s K false = 5 := by
            by_cases hi : 8 * s.size ≤ K
            · right; unfold enE; rw [if_pos hi]
            · left; exact enG_no (by cases hq : enG s K with | false => rfl | true => exact absurd ((hen (by omega)).2 hq) (by omega)) (by omega)
          have M := Lib.hid (And.intro m2 m1)
          have E2 := Lib.hid (And.intro hy2 hj2)
          subst ho
          clear m1 m2 hm hge hen hE1 hE2 c1
          rcases n1 with n1 | n1
          all_goals
            have E1 := Lib.hid (And.intro n1 hj1)
            clear n1 hEl hj1 hj2 hy2
            go_wp2_with (first | (go_at_call 25; (with_reducible refine (left_as g 0 at0 Y.out).mono ?_); rintro e w1 ⟨rfl, g1⟩; clear g) | (go_at_call 11; (with_reducible refine (more_as g1 1 at1 M.out).mono ?_); rintro e w1 ⟨rfl, g2⟩; clear g1) | (go_at_call 21; (with_reducible refine (pos_any g2 1 at1).mono ?_); rintro e w1 ⟨rfl, rfl⟩) | (go_at_call 10; (with_reducible refine (copy_any g2 1 at1).mono ?_); rintro e w1 ⟨c2, rfl, g3⟩; clear g2) | (go_at_call 12; (with_reducible refine (end_as g3 0 at0 false E1.out).mono ?_); rintro e w1 ⟨rfl, g4⟩; simp only [set0] at g4; clear g3) | (go_at_call 12; (with_reducible refine (end_as g4 2 at2 true E2.out).mono ?_); rintro e w1 ⟨rfl, g5⟩; clear g4) | (go_at_call 17; (with_reducible refine (tknown_any g5).mono ?_); rintro e w1 ⟨rfl, g6⟩))
            exact bodyPost_ret (results_tmp rfl _ _ _) rfl ⟨rfl, g6.below⟩
        · obtain ⟨m1, m2⟩ := hm.2 c1
          have hKs : K < 8 * s.size := by omega
          have hen := hen hKs
          have ho : ((o : Int) == 0) = false := by
            have : o ≠ 0 := fun h => by have := hE2.1 h; omega
            simp; omega
          by_cases c2 : E = (K : Int)
          · have hg := hen.1 c2
            have m3 : mrV s K = false := by rw [m2, decide_eq_false]; exact fun h => h c2
            have M := Lib.hid (And.intro m3 m1)
            have hKE : decide ((K : Int) < E) = false := by simp; omega
            obtain ⟨A, hA⟩ : ∃ A, A = (8 * s.size - K - 1) / 8 := ⟨_, rfl⟩
            have u1 : ∀ wd, enE s K wd = if enG s K = true ∧ A % 2 = 0 ∧ (wd = false → A = 0) then 0 else 4 := fun wd => by unfold enE; rw [if_neg (by omega), ← hA]
            by_cases hA0 : A = 0
            · have f1 : enE s K false = 0 := by rw [u1, if_pos ⟨hg, by omega, fun _ => hA0⟩]
              have f2 : enE s K true = 0 := by rw [u1, if_pos ⟨hg, by omega, fun h => by cases h⟩]
              have E1 := Lib.hid (And.intro f1 hj1)
              have E2 := Lib.hid (And.intro f2 hj2)
              clear f1 f2 u1 hA0 hA hg m1 m2 m3 hm hge hen hE1 hE2 c1 c2 hEl hj1 hj2 hy2
              go_wp2_with (first | (go_at_call 25; (with_reducible refine (left_as g 0 at0 Y.out).mono ?_); rintro e w1 ⟨rfl, g1⟩; clear g) | (go_at_call 11; (with_reducible refine (more_as g1 1 at1 M.out).mono ?_); rintro e w1 ⟨rfl, g2⟩; clear g1) | (go_at_call 21; (with_reducible refine (pos_any g2 1 at1).mono ?_); rintro e w1 ⟨rfl, rfl⟩) | (go_at_call 10; (with_reducible refine (copy_any g2 1 at1).mono ?_); rintro e w1 ⟨c2, rfl, g3⟩; clear g2) | (go_at_call 12; (with_reducible refine (end_as g3 0 at0 false E1.out).mono ?_); rintro e w1 ⟨rfl, g4⟩; simp only [set0] at g4; clear g3) | (go_at_call 12; (with_reducible refine (end_as g4 2 at2 true E2.out).mono ?_); rintro e w1 ⟨rfl, g5⟩; clear g4) | (go_at_call 17; (with_reducible refine (tknown_any g5).mono ?_); rintro e w1 ⟨rfl, g6⟩))
              exact bodyPost_ret (results_tmp rfl _ _ _) rfl ⟨rfl, g6.below⟩
            · have f1 : enE s K false = 4 := by rw [u1, if_neg (fun h => hA0 (h.2.2 rfl))]
              have E1 := Lib.hid (And.intro f1 hj1)
              have E2 := Lib.hid (And.intro hy2 hj2)
              clear f1 u1 hA0 hA hg m1 m2 m3 hm hge hen hE1 hE2 c1 c2 hEl hj1 hj2 hy2
              go_wp2_with (first | (go_at_call 25; (with_reducible refine (left_as g 0 at0 Y.out).mono ?_); rintro e w1 ⟨rfl, g1⟩; clear g) | (go_at_call 11; (with_reducible refine (more_as g1 1 at1 M.out).mono ?_); rintro e w1 ⟨rfl, g2⟩; clear g1) | (go_at_call 21; (with_reducible refine (pos_any g2 1 at1).mono ?_); rintro e w1 ⟨rfl, rfl⟩) | (go_at_call 10; (with_reducible refine (copy_any g2 1 at1).mono ?_); rintro e w1 ⟨c2, rfl, g3⟩; clear g2) | (go_at_call 12; (with_reducible refine (end_as g3 0 at0 false E1.out).mono ?_); rintro e w1 ⟨rfl, g4⟩; simp only [set0] at g4; clear g3) | (go_at_call 12; (with_reducible refine (end_as g4 2 at2 true E2.out).mono ?_); rintro e w1 ⟨rfl, g5⟩; clear g4) | (go_at_call 17; (with_reducible refine (tknown_any g5).mono ?_); rintro e w1 ⟨rfl, g6⟩))
              exact bodyPost_ret (results_tmp rfl _ _ _) rfl ⟨rfl, g6.below⟩
          · have hg : enG s K = false := by cases hq : enG s K with | false => rfl | true => exact absurd (hen.2 hq) c2
            have m3 : mrV s K = true := by rw [m2, decide_eq_true c2]
            have M := Lib.hid (And.intro m3 m1)
            have hKE : decide ((K : Int) < E) = true := by simp; omega
            have E1 := Lib.hid (And.intro (enG_no (wd := false) hg hKs) hj1)
            have E2 := Lib.hid (And.intro (enG_no (wd := true) hg hKs) hj2)
            clear hg m1 m2 m3 hm hge hen hE1 hE2 c1 c2 hEl hj1 hj2 hy2
            go_wp2_with (first | (go_at_call 25; (with_reducible refine (left_as g 0 at0 Y.out).mono ?_); rintro e w1 ⟨rfl, g1⟩; clear g) | (go_at_call 11; (with_reducible refine (more_as g1 1 at1 M.out).mono ?_); rintro e w1 ⟨rfl, g2⟩; clear g1) | (go_at_call 21; (with_reducible refine (pos_any g2 1 at1).mono ?_); rintro e w1 ⟨rfl, rfl⟩) | (go_at_call 10; (with_reducible refine (copy_any g2 1 at1).mono ?_); rintro e w1 ⟨c2, rfl, g3⟩; clear g2) | (go_at_call 12; (with_reducible refine (end_as g3 0 at0 false E1.out).mono ?_); rintro e w1 ⟨rfl, g4⟩; simp only [set0] at g4; clear g3) | (go_at_call 12; (with_reducible refine (end_as g4 2 at2 true E2.out).mono ?_); rintro e w1 ⟨rfl, g5⟩; clear g4) | (go_at_call 17; (with_reducible refine (tknown_any g5).mono ?_); rintro e w1 ⟨rfl, g6⟩))
            exact bodyPost_ret (results_tmp rfl _ _ _) rfl ⟨rfl, g6.below⟩
  · have hsd : decide (100 < s.size) = true := by simp; omega
    go_enter Try.func7, Try.ntmps7
    go_wp2_with (first | (go_at_call 17; (with_reducible refine (tknown_any hS).mono ?_); rintro e w1 ⟨rfl, h5⟩))
    exact bodyPost_ret (results_tmp rfl _ _ _) rfl ⟨rfl, h5.below⟩

end Go.Proofs.Ytlckjjgamnphbaa
