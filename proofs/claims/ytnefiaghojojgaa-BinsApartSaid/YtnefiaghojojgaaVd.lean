/- Bins of different numbers differ first in a bit of one context: the plain law. -/
import Derived.Test.YtnefiaghojojgaaVk
namespace Go.Proofs.Ytnefiaghojojgaa
open Go.RowKit Go.Shelf
set_option linter.unusedVariables false
set_option maxRecDepth 100000
set_option linter.unusedSimpArgs false

/-- Two lists of bins differ first in a bit of one context. -/
def Ap (a b : List (Int × Int)) : Prop := ∃ i, i < a.length ∧ i < b.length ∧ (∀ j, j < i → a.getD j (0, 0) = b.getD j (0, 0)) ∧ (a.getD i (0, 0)).1 = (b.getD i (0, 0)).1 ∧ (a.getD i (0, 0)).2 ≠ (b.getD i (0, 0)).2
theorem Ap.symm {a b : List (Int × Int)} : Ap a b → Ap b a := fun ⟨i, h1, h2, h3, h4, h5⟩ => ⟨i, h2, h1, fun j hj => (h3 j hj).symm, h4.symm, fun e => h5 e.symm⟩
theorem Ap.post {a b : List (Int × Int)} (r s : List (Int × Int)) : Ap a b → Ap (a ++ r) (b ++ s) := fun ⟨i, h1, h2, h3, h4, h5⟩ => by
  refine ⟨i, by rw [List.length_append]; omega, by rw [List.length_append]; omega, fun j hj => ?_, ?_, ?_⟩
  · rw [getD_left (by omega), getD_left (by omega)]; exact h3 j hj
  · rw [getD_left h1, getD_left h2]; exact h4
  · rw [getD_left h1, getD_left h2]; exact h5
theorem Ap.pre {a b : List (Int × Int)} (p : List (Int × Int)) : Ap a b → Ap (p ++ a) (p ++ b) := fun ⟨i, h1, h2, h3, h4, h5⟩ => by
  refine ⟨p.length + i, by rw [List.length_append]; omega, by rw [List.length_append]; omega, fun j hj => ?_, ?_, ?_⟩
  · by_cases h : j < p.length
    · rw [getD_left h, getD_left h]
    · rw [getD_right (by omega), getD_right (by omega)]; exact h3 _ (by omega)
  · rw [getD_right (by omega), getD_right (by omega), Nat.add_sub_cancel_left]; exact h4
  · rw [getD_right (by omega), getD_right (by omega), Nat.add_sub_cancel_left]; exact h5

theorem cntP_split (l : List Int) (v u : Nat) (h : v < u) : ∃ r, cntP l u = cntP l v ++ (rowAt l v, 1) :: r := by
  obtain ⟨d, rfl⟩ : ∃ d, u = v + 1 + d := ⟨u - v - 1, by omega⟩
  refine ⟨(List.range d).map (fun i => (rowAt l (v + 1 + i), 1)), ?_⟩
  unfold cntP
  rw [List.range_add, List.map_append, List.range_succ, List.map_append]
  simp
theorem cnt_apart (l : List Int) (v u : Nat) (f : Bool) (h : v < u) : Ap (cntB l v true) (cntB l u f) := by
  obtain ⟨r, hr⟩ := cntP_split l v u h
  rw [cntB_eq, cntB_eq, hr, List.append_assoc]
  refine Ap.pre _ ⟨0, by simp, by simp, fun j hj => by omega, by simp, by simp⟩
theorem dig_apart (a b : Nat) : ∀ n, a % 2 ^ n ≠ b % 2 ^ n → Ap (digB a n) (digB b n)
  | 0, h => by simp [Nat.mod_one] at h
  | n + 1, h => by
    by_cases hb : a / 2 ^ n % 2 = b / 2 ^ n % 2
    · have h2 : a % 2 ^ n ≠ b % 2 ^ n := by
        intro e
        apply h
        rw [Nat.pow_succ, Nat.mod_mul, Nat.mod_mul, hb, e]
      have := dig_apart a b n h2
      unfold digB
      rw [hb]
      exact this.pre [_]
    · refine ⟨0, by simp [digB], by simp [digB], fun j hj => by omega, rfl, ?_⟩
      simp only [digB, List.getD_cons_zero]
      omega
theorem esc_eq {n K : Nat} (hn : n < 2147483648) (hK : K ≤ 8) : escB n K = digB (n / 2 ^ K + 1) (2 * lgN (n / 2 ^ K) + 1) ++ digB n K := by
  have hq : n / 2 ^ K ≤ n := Nat.div_le_self _ _
  have hE : escE n K = 0 := if_neg (by rw [Int.toNat_natCast]; omega)
  unfold escB
  rw [if_pos hE, Int.toNat_natCast]
theorem esc_lt {a b K : Nat} (ha : a < 2147483648) (hb : b < 2147483648) (hK : K ≤ 8) (h : lgN (a / 2 ^ K) < lgN (b / 2 ^ K)) : Ap (escB a K) (escB b K) := by
  obtain ⟨_, l1, c1, z1, o1⟩ := esc_facts ha hK
  obtain ⟨_, l2, c2, z2, o2⟩ := esc_facts hb hK
  refine ⟨lgN (a / 2 ^ K), by omega, by omega, fun j hj => ?_, ?_, ?_⟩
  · exact Prod.ext ((c1 j (by omega)).trans (c2 j (by omega)).symm) ((z1 j hj).trans (z2 j (by omega)).symm)
  · rw [c1 _ (by omega), c2 _ (by omega)]
  · rw [o1, z2 _ h]; decide
theorem esc_apart {a b K : Nat} (ha : a < 2147483648) (hb : b < 2147483648) (hK : K ≤ 8) (h : a ≠ b) : Ap (escB a K) (escB b K) := by
  rcases Nat.lt_trichotomy (lgN (a / 2 ^ K)) (lgN (b / 2 ^ K)) with hl | hl | hl
  · exact esc_lt ha hb hK hl
  · rw [esc_eq ha hK, esc_eq hb hK]
    by_cases hq : a / 2 ^ K = b / 2 ^ K
    · rw [hq]
      refine Ap.pre _ (dig_apart _ _ _ (fun e => h ?_))
      rw [← Nat.div_add_mod a (2 ^ K), ← Nat.div_add_mod b (2 ^ K), hq, e]
    · rw [hl]
      refine Ap.post _ _ (dig_apart _ _ _ ?_)
      have b1 := (lgN_bounds (a / 2 ^ K)).2
      have b2 := (lgN_bounds (b / 2 ^ K)).2
      rw [hl] at b1
      have hp : 2 ^ (lgN (b / 2 ^ K) + 1) ≤ 2 ^ (2 * lgN (b / 2 ^ K) + 1) := Nat.pow_le_pow_right (by omega) (by omega)
      rw [Nat.mod_eq_of_lt (by omega), Nat.mod_eq_of_lt (by omega)]
      omega
  · exact (esc_lt hb ha hK hl).symm
theorem mvN_lt {N M : Nat} (hM : M ≤ 8192) (h : N < M) (sum : Int) (vert : Bool) : Ap (mvN N sum vert) (mvN M sum vert) := by
  unfold mvN
  by_cases h9 : N < 9
  · rw [show min N 9 = N by omega, decide_eq_true (show ((N : Nat) : Int) ≠ 9 by omega)]
    exact Ap.post _ _ (cnt_apart _ _ _ _ (by omega))
  · rw [show min N 9 = 9 by omega, show min M 9 = 9 by omega, if_pos (by omega), if_pos (by omega)]
    exact Ap.pre _ (esc_apart (K := 3) (by omega) (by omega) (by omega) (by omega))
theorem mv_eq {v : Int} (h1 : -8192 ≤ v) (h2 : v ≤ 8192) {sum : Int} (hs : 0 ≤ sum) (vert : Bool) : mvB v sum vert = mvN v.natAbs sum vert ++ sgB v := if_pos (if_pos ⟨hs, h1, h2⟩)
theorem mv_apart {a b : Int} (a1 : -8192 ≤ a) (a2 : a ≤ 8192) (b1 : -8192 ≤ b) (b2 : b ≤ 8192) {sum : Int} (hs : 0 ≤ sum) (vert : Bool) (h : a ≠ b) : Ap (mvB a sum vert) (mvB b sum vert) := by
  rw [mv_eq a1 a2 hs, mv_eq b1 b2 hs]
  rcases Nat.lt_trichotomy a.natAbs b.natAbs with hl | hl | hl
  · exact Ap.post _ _ (mvN_lt (by omega) hl sum vert)
  · rw [hl]
    apply Ap.pre
    rcases Int.lt_or_le a 0 with c | c
    · have e1 : sgB a = [(-1, 1)] := if_pos c
      have e2 : sgB b = [(-1, 0)] := by unfold sgB; rw [if_neg (by omega), if_pos (by omega)]
      rw [e1, e2]
      exact ⟨0, by simp, by simp, fun j hj => by omega, rfl, by decide⟩
    · have e1 : sgB a = [(-1, 0)] := by unfold sgB; rw [if_neg (by omega), if_pos (by omega)]
      have e2 : sgB b = [(-1, 1)] := if_pos (by omega)
      rw [e1, e2]
      exact ⟨0, by simp, by simp, fun j hj => by omega, rfl, by decide⟩
  · exact (Ap.post _ _ (mvN_lt (by omega) hl sum vert)).symm
theorem un_eq {v : Int} {f s r : Int} (h1 : 0 ≤ v) (h2 : v ≤ 1024) (hc : [f, s, r].all okc = true) : unB v f s r = cntB [f, s, r] v.toNat true := if_pos (if_pos ⟨h1, h2, hc⟩)
theorem un_apart {a b : Int} {f s r : Int} (a1 : 0 ≤ a) (a2 : a ≤ 1024) (b1 : 0 ≤ b) (b2 : b ≤ 1024) (hc : [f, s, r].all okc = true) (h : a ≠ b) : Ap (unB a f s r) (unB b f s r) := by
  rw [un_eq a1 a2 hc, un_eq b1 b2 hc]
  rcases Int.lt_trichotomy a b with hl | hl | hl
  · exact cnt_apart _ _ _ _ (by omega)
  · exact absurd hl h
  · exact (cnt_apart _ _ _ _ (by omega)).symm
theorem cut_eq {v m f r : Int} (m1 : m ≤ 1024) (h1 : 0 ≤ v) (h2 : v ≤ m) (hc : [f, r].all okc = true) : cutB v m f r = cntB [f, r] v.toNat (decide (v ≠ m)) := if_pos (if_pos ⟨by omega, m1, hc, h1, h2⟩)
theorem cut_apart {a b m f r : Int} (m1 : m ≤ 1024) (a1 : 0 ≤ a) (a2 : a ≤ m) (b1 : 0 ≤ b) (b2 : b ≤ m) (hc : [f, r].all okc = true) (h : a ≠ b) : Ap (cutB a m f r) (cutB b m f r) := by
  rw [cut_eq m1 a1 a2 hc, cut_eq m1 b1 b2 hc]
  rcases Int.lt_trichotomy a b with hl | hl | hl
  · rw [decide_eq_true (show a ≠ m by omega)]
    exact cnt_apart _ _ _ _ (by omega)
  · exact absurd hl h
  · rw [decide_eq_true (show b ≠ m by omega)]
    exact (cnt_apart _ _ _ _ (by omega)).symm
theorem okc_of {c : Int} (h1 : 0 ≤ c) (h2 : c < 286) : okc c = true := by
  unfold okc
  rw [decide_eq_true (by omega), decide_eq_true h2]
  rfl

theorem put_apart (what V v N : Int) (h : V % manyN what N ≠ v % manyN what N) : Ap (putB what V N) (putB what v N) := by
  unfold putB
  unfold manyN at h
  split
  · rename_i c
    rw [if_pos c] at h
    exact un_apart (by omega) (by omega) (by omega) (by omega) (by simp [okc_of (show 0 ≤ 24 + N % 4 by omega) (show 24 + N % 4 < 286 by omega), okc_of (show (0 : Int) ≤ 28 by decide) (by decide), okc_of (show (0 : Int) ≤ 29 by decide) (by decide)]) h
  rename_i c0
  rw [if_neg c0] at h
  split
  · rename_i c
    rw [if_pos c] at h
    have hm : 0 < N % 15 + 1 := by omega
    have e1 := Int.emod_nonneg V (show N % 15 + 1 ≠ 0 by omega)
    have e2 := Int.emod_lt_of_pos V hm
    have e3 := Int.emod_nonneg v (show N % 15 + 1 ≠ 0 by omega)
    have e4 := Int.emod_lt_of_pos v hm
    exact cut_apart (by omega) e1 (by omega) e3 (by omega) (by decide) h
  rename_i c1
  rw [if_neg c1] at h
  split
  · rename_i c
    rw [if_pos c] at h
    obtain ⟨K, hK⟩ : ∃ K : Nat, N % 9 = (K : Int) := ⟨(N % 9).toNat, by omega⟩
    rw [hK]
    exact esc_apart (by omega) (by omega) (by omega) (by omega)
  rename_i c2
  rw [if_neg c2] at h
  split
  · rename_i c
    rw [if_neg (by omega)] at h
    exact mv_apart (by omega) (by omega) (by omega) (by omega) (by omega) _ (by omega)
  rename_i c3
  split
  · rename_i c
    rw [if_neg (by omega)] at h
    exact mv_apart (by omega) (by omega) (by omega) (by omega) (by omega) _ (by omega)
  · rename_i c4
    rw [if_pos (by omega)] at h
    have e1 : qpB (V % 52 - 26) (N % 2) = unB (qpN (V % 52 - 26)) (62 + N % 2) 64 65 := if_pos (if_pos ⟨by omega, by omega, by omega, by omega⟩)
    have e2 : qpB (v % 52 - 26) (N % 2) = unB (qpN (v % 52 - 26)) (62 + N % 2) 64 65 := if_pos (if_pos ⟨by omega, by omega, by omega, by omega⟩)
    rw [e1, e2]
    have q : ∀ x : Int, -26 ≤ x → x ≤ 25 → (qpN x : Int) = if 0 < x then 2 * x - 1 else -2 * x := fun x _ _ => by unfold qpN; split <;> omega
    have q1 := q (V % 52 - 26) (by omega) (by omega)
    have q2 := q (v % 52 - 26) (by omega) (by omega)
    exact un_apart (by omega) (by split at q1 <;> omega) (by omega) (by split at q2 <;> omega) (by simp [okc_of (show 0 ≤ 62 + N % 2 by omega) (show 62 + N % 2 < 286 by omega), okc_of (show (0 : Int) ≤ 64 by decide) (by decide), okc_of (show (0 : Int) ≤ 65 by decide) (by decide)]) (by split at q1 <;> split at q2 <;> omega)
theorem put_same (what V v N : Int) (h : V % manyN what N = v % manyN what N) : putB what V N = putB what v N := by
  unfold putB
  unfold manyN at h
  split
  · rename_i c; rw [if_pos c] at h; rw [h]
  rename_i c0
  rw [if_neg c0] at h
  split
  · rename_i c; rw [if_pos c] at h; rw [h]
  rename_i c1
  rw [if_neg c1] at h
  split
  · rename_i c; rw [if_pos c] at h; rw [h]
  rename_i c2
  rw [if_neg c2] at h
  split
  · rw [if_neg (by omega)] at h; rw [h]
  split
  · rw [if_neg (by omega)] at h; rw [h]
  · rw [if_pos (by omega)] at h; rw [h]
end Go.Proofs.Ytnefiaghojojgaa
