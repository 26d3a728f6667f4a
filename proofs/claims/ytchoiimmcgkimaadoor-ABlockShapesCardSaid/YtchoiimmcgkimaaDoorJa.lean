/- Blocks as bins: plain definitions and laws. -/
import Derived.Test.YtchoiimmcgkimaaDoorVu
namespace Go.Proofs.YtchoiimmcgkimaaDoor
open Go.RowKit Go.Shelf
set_option linter.unusedVariables false
set_option maxRecDepth 100000
set_option linter.unusedSimpArgs false

theorem digB_ctx (v : Nat) : ∀ (n i : Nat), i < n → ((digB v n).getD i (0, 0)).1 = -1
  | n + 1, 0, _ => rfl
  | n + 1, i + 1, h => by simpa [digB] using digB_ctx v n i (by omega)
theorem digB_bit (v : Nat) : ∀ (n i : Nat), i < n → ((digB v n).getD i (0, 0)).2 = ((v / 2 ^ (n - 1 - i) % 2 : Nat) : Int)
  | n + 1, 0, _ => rfl
  | n + 1, i + 1, h => by
    have := digB_bit v n i (by omega)
    rw [show n + 1 - 1 - (i + 1) = n - 1 - i by omega]
    simpa [digB] using this
theorem getD_left {a b : List (Int × Int)} {i : Nat} (h : i < a.length) : (a ++ b).getD i (0, 0) = a.getD i (0, 0) := by
  simp [List.getElem?_append_left h]
theorem getD_right {a b : List (Int × Int)} {i : Nat} (h : a.length ≤ i) : (a ++ b).getD i (0, 0) = b.getD (i - a.length) (0, 0) := by
  simp [List.getElem?_append_right h]
theorem esc_facts {n K : Nat} (hn : n < 2147483648) (hK : K ≤ 8) : escE n K = 0 ∧ (escB n K).length = K + 1 + 2 * lgN (n / 2 ^ K) ∧ (∀ i, i < (escB n K).length → ((escB n K).getD i (0, 0)).1 = -1) ∧
    (∀ i, i < lgN (n / 2 ^ K) → ((escB n K).getD i (0, 0)).2 = 0) ∧ ((escB n K).getD (lgN (n / 2 ^ K)) (0, 0)).2 = 1 := by
  obtain ⟨q, hq⟩ : ∃ q, q = n / 2 ^ K := ⟨_, rfl⟩
  have hqn : q ≤ n := by rw [hq]; exact Nat.div_le_self _ _
  have hE : escE n K = 0 := if_neg (by rw [Int.toNat_natCast, ← hq]; omega)
  have hB : escB n K = digB (q + 1) (2 * lgN q + 1) ++ digB n K := by unfold escB; rw [if_pos hE, Int.toNat_natCast, ← hq]
  rw [hB, ← hq]
  obtain ⟨b1, b2⟩ := lgN_bounds q
  refine ⟨hE, by rw [List.length_append, digB_length, digB_length]; omega, fun i hi => ?_, fun i hi => ?_, ?_⟩
  · rw [List.length_append, digB_length, digB_length] at hi
    by_cases h : i < 2 * lgN q + 1
    · rw [getD_left (by rw [digB_length]; exact h), digB_ctx _ _ _ h]
    · rw [getD_right (by rw [digB_length]; omega), digB_length, digB_ctx _ _ _ (by omega)]
  · rw [getD_left (by rw [digB_length]; omega), digB_bit _ _ _ (by omega), show 2 * lgN q + 1 - 1 - i = lgN q + 1 + (lgN q - 1 - i) by omega, Nat.pow_add, ← Nat.div_div_eq_div_mul, Nat.div_eq_of_lt b2]
    simp
  · rw [getD_left (by rw [digB_length]; omega), digB_bit _ _ _ (by omega), show 2 * lgN q + 1 - 1 - lgN q = lgN q by omega]
    have : (q + 1) / 2 ^ lgN q = 1 := by
      apply Nat.div_eq_of_lt_le
      · omega
      · rw [Nat.pow_succ] at b2; omega
    rw [this]
    rfl
def Ap (a b : List (Int × Int)) : Prop := ∃ i, i < a.length ∧ i < b.length ∧ (∀ j, j < i → a.getD j (0, 0) = b.getD j (0, 0)) ∧ (a.getD i (0, 0)).1 = (b.getD i (0, 0)).1 ∧ (a.getD i (0, 0)).2 ≠ (b.getD i (0, 0)).2
theorem Ap.symm {a b : List (Int × Int)} : Ap a b → Ap b a := fun ⟨i, h1, h2, h3, h4, h5⟩ => ⟨i, h2, h1, fun j hj => (h3 j hj).symm, h4.symm, fun e => h5 e.symm⟩
theorem Ap.post {a b : List (Int × Int)} (r s : List (Int × Int)) : Ap a b → Ap (a ++ r) (b ++ s) := fun ⟨i, h1, h2, h3, h4, h5⟩ => by
  refine ⟨i, by rw [List.length_append]; omega, by rw [List.length_append]; omega, fun j hj => ?_, ?_, ?_⟩
  · rw [getD_left (by omega), getD_left (by omega)]; exact h3 j hj
  · rw [getD_left h1, getD_left h2]; exact h4
  · rw [getD_left h1, getD_left h2]; exact h5
theorem Ap.pre {a b : List (Int × Int)} (p : List (Int × Int)) : Ap a b → Ap (p ++ a) (p ++ b) := fun ⟨i, h1, h2, h3, h4, h5⟩ => by
  refine ⟨p.length + i, by rw [List.length_append]; omega, by rw [List.length_append]; omega, fun j hj => ?_, ?_, ?_⟩
  · by_cases h : j < p.length
    · rw [getD_left h, getD_left h]
    · rw [getD_right (by omega), getD_right (by omega)]; exact h3 _ (by omega)
  · rw [getD_right (by omega), getD_right (by omega), Nat.add_sub_cancel_left]; exact h4
  · rw [getD_right (by omega), getD_right (by omega), Nat.add_sub_cancel_left]; exact h5
theorem cntP_split (l : List Int) (v u : Nat) (h : v < u) : ∃ r, cntP l u = cntP l v ++ (rowAt l v, 1) :: r := by
  obtain ⟨d, rfl⟩ : ∃ d, u = v + 1 + d := ⟨u - v - 1, by omega⟩
  refine ⟨(List.range d).map (fun i => (rowAt l (v + 1 + i), 1)), ?_⟩
  unfold cntP
  rw [List.range_add, List.map_append, List.range_succ, List.map_append]
  simp
theorem cnt_apart (l : List Int) (v u : Nat) (f : Bool) (h : v < u) : Ap (cntB l v true) (cntB l u f) := by
  obtain ⟨r, hr⟩ := cntP_split l v u h
  rw [cntB_eq, cntB_eq, hr, List.append_assoc]
  refine Ap.pre _ ⟨0, by simp, by simp, fun j hj => by omega, by simp, by simp⟩
theorem dig_apart (a b : Nat) : ∀ n, a % 2 ^ n ≠ b % 2 ^ n → Ap (digB a n) (digB b n)
  | 0, h => by simp [Nat.mod_one] at h
  | n + 1, h => by
    by_cases hb : a / 2 ^ n % 2 = b / 2 ^ n % 2
    · have h2 : a % 2 ^ n ≠ b % 2 ^ n := by
        intro e
        apply h
        rw [Nat.pow_succ, Nat.mod_mul, Nat.mod_mul, hb, e]
      have := dig_apart a b n h2
      unfold digB
      rw [hb]
      exact this.pre [_]
    · refine ⟨0, by simp [digB], by simp [digB], fun j hj => by omega, rfl, ?_⟩
      simp only [digB, List.getD_cons_zero]
      omega
theorem esc_eq {n K : Nat} (hn : n < 2147483648) (hK : K ≤ 8) : escB n K = digB (n / 2 ^ K + 1) (2 * lgN (n / 2 ^ K) + 1) ++ digB n K := by
  have hq : n / 2 ^ K ≤ n := Nat.div_le_self _ _
  have hE : escE n K = 0 := if_neg (by rw [Int.toNat_natCast]; omega)
  unfold escB
  rw [if_pos hE, Int.toNat_natCast]
theorem esc_lt {a b K : Nat} (ha : a < 2147483648) (hb : b < 2147483648) (hK : K ≤ 8) (h : lgN (a / 2 ^ K) < lgN (b / 2 ^ K)) : Ap (escB a K) (escB b K) := by
  obtain ⟨_, l1, c1, z1, o1⟩ := esc_facts ha hK
  obtain ⟨_, l2, c2, z2, o2⟩ := esc_facts hb hK
  refine ⟨lgN (a / 2 ^ K), by omega, by omega, fun j hj => ?_, ?_, ?_⟩
  · exact Prod.ext ((c1 j (by omega)).trans (c2 j (by omega)).symm) ((z1 j hj).trans (z2 j (by omega)).symm)
  · rw [c1 _ (by omega), c2 _ (by omega)]
  · rw [o1, z2 _ h]; decide
theorem esc_apart {a b K : Nat} (ha : a < 2147483648) (hb : b < 2147483648) (hK : K ≤ 8) (h : a ≠ b) : Ap (escB a K) (escB b K) := by
  rcases Nat.lt_trichotomy (lgN (a / 2 ^ K)) (lgN (b / 2 ^ K)) with hl | hl | hl
  · exact esc_lt ha hb hK hl
  · rw [esc_eq ha hK, esc_eq hb hK]
    by_cases hq : a / 2 ^ K = b / 2 ^ K
    · rw [hq]
      refine Ap.pre _ (dig_apart _ _ _ (fun e => h ?_))
      rw [← Nat.div_add_mod a (2 ^ K), ← Nat.div_add_mod b (2 ^ K), hq, e]
    · rw [hl]
      refine Ap.post _ _ (dig_apart _ _ _ ?_)
      have b1 := (lgN_bounds (a / 2 ^ K)).2
      have b2 := (lgN_bounds (b / 2 ^ K)).2
      rw [hl] at b1
      have hp : 2 ^ (lgN (b / 2 ^ K) + 1) ≤ 2 ^ (2 * lgN (b / 2 ^ K) + 1) := Nat.pow_le_pow_right (by omega) (by omega)
      rw [Nat.mod_eq_of_lt (by omega), Nat.mod_eq_of_lt (by omega)]
      omega
  · exact (esc_lt hb ha hK hl).symm
theorem cut_eq {v m f r : Int} (m1 : m ≤ 1024) (h1 : 0 ≤ v) (h2 : v ≤ m) (hc : [f, r].all okc = true) : cutB v m f r = cntB [f, r] v.toNat (decide (v ≠ m)) := if_pos (if_pos ⟨by omega, m1, hc, h1, h2⟩)
theorem cut_apart {a b m f r : Int} (m1 : m ≤ 1024) (a1 : 0 ≤ a) (a2 : a ≤ m) (b1 : 0 ≤ b) (b2 : b ≤ m) (hc : [f, r].all okc = true) (h : a ≠ b) : Ap (cutB a m f r) (cutB b m f r) := by
  rw [cut_eq m1 a1 a2 hc, cut_eq m1 b1 b2 hc]
  rcases Int.lt_trichotomy a b with hl | hl | hl
  · rw [decide_eq_true (show a ≠ m by omega)]
    exact cnt_apart _ _ _ _ (by omega)
  · exact absurd hl h
  · rw [decide_eq_true (show b ≠ m by omega)]
    exact (cnt_apart _ _ _ _ (by omega)).symm
theorem okc_of {c : Int} (h1 : 0 ≤ c) (h2 : c < 286) : okc c = true := by
  unfold okc
  rw [decide_eq_true (by omega), decide_eq_true h2]
  rfl

/-- One more than the last of the first k numbers that is not 0; 0: there is none. -/
def lk (f : Nat → Int) : Nat → Nat
  | 0 => 0
  | k + 1 => if f k ≠ 0 then k + 1 else lk f k
def nmK (cat : Int) (i : Nat) : Int := 15 * cat + (if cat = 3 then ((min i 2 : Nat) : Int) else (i : Int))
def b1 (b : Bool) : Int := if b then 1 else 0
/-- The bins of the first k places: m is how many there are, size the block's size. -/
def mpB (cat : Int) (size m : Nat) (f : Nat → Int) : Nat → List (Int × Int)
  | 0 => []
  | k + 1 => mpB cat size m f k ++ ((if k + 1 < size then [(86 + nmK cat k, b1 (decide (f k ≠ 0)))] else []) ++ if f k ≠ 0 ∧ k + 1 < size then [(161 + nmK cat k, b1 (decide (k + 1 = m)))] else [])
/-- The numbers of the first k places that are not 0. -/
def rm (f : Nat → Int) : Nat → List Int
  | 0 => []
  | k + 1 => rm f k ++ if f k ≠ 0 then [f k] else []
def ones (l : List Int) : Nat := (l.filter (fun z => decide (z.natAbs = 1))).length
def lrg (l : List Int) : Nat := (l.filter (fun z => decide (z.natAbs ≠ 1))).length
def lvF (cat : Int) (o g : Nat) : Int := 236 + 10 * cat + (if g = 0 then ((min (o + 1) 4 : Nat) : Int) else 0)
def lvR (cat : Int) (g : Nat) : Int := 236 + 10 * cat + 5 + ((min g 4 : Nat) : Int)
/-- The bins of a level. -/
def lvZ (cat : Int) (o g : Nat) (z : Int) : List (Int × Int) := cntB [lvF cat o g, lvR cat g] (min (z.natAbs - 1) 14) (decide (((min (z.natAbs - 1) 14 : Nat) : Int) ≠ 14)) ++ ((if 14 < z.natAbs then escB (z.natAbs - 15) 0 else []) ++ [(-1, b1 (decide (z < 0)))])
/-- The bins of the first t levels of a list (from the last coefficient on). -/
def lvP (cat : Int) (r : List Int) : Nat → List (Int × Int)
  | 0 => []
  | t + 1 => lvP cat r t ++ lvZ cat (ones (r.take t)) (lrg (r.take t)) (r.getD t 0)
def blkT (cat : Int) (size : Nat) (f : Nat → Int) : List (Int × Int) := if lk f size = 0 then [] else mpB cat size (lk f size) f (lk f size) ++ lvP cat (rm f (lk f size)).reverse (rm f (lk f size)).length
def blkB (cat inc : Int) (size : Nat) (f : Nat → Int) : List (Int × Int) := (66 + 4 * cat + inc, b1 (decide (lk f size ≠ 0))) :: blkT cat size f

theorem lk_le (f : Nat → Int) : ∀ k, lk f k ≤ k
  | 0 => Nat.le_refl _
  | k + 1 => by unfold lk; split; exact Nat.le_refl _; exact Nat.le_succ_of_le (lk_le f k)
theorem lk_nz {f : Nat → Int} : ∀ {k j : Nat}, lk f k = j + 1 → f j ≠ 0
  | 0, j, h => by simp [lk] at h
  | k + 1, j, h => by
    unfold lk at h
    split at h
    · rename_i c; have : k = j := by omega
      subst this; exact c
    · exact lk_nz h
theorem lk_zero {f : Nat → Int} : ∀ {k j : Nat}, lk f k ≤ j → j < k → f j = 0
  | 0, j, _, h => by omega
  | k + 1, j, h1, h2 => by
    unfold lk at h1
    split at h1
    · omega
    · rename_i c
      by_cases e : j = k
      · subst e; simpa using c
      · exact lk_zero h1 (by omega)
theorem lk_of {f : Nat → Int} {k j : Nat} (h1 : f j ≠ 0) (h2 : j < k) : j < lk f k := by
  rcases Nat.lt_or_ge j (lk f k) with h | h
  · exact h
  · exact absurd (lk_zero h h2) h1
theorem lk_eq {f g : Nat → Int} : ∀ {k : Nat}, (∀ i, i < k → (f i ≠ 0 ↔ g i ≠ 0)) → lk f k = lk g k
  | 0, _ => rfl
  | k + 1, h => by
    unfold lk
    rw [lk_eq fun i hi => h i (by omega)]
    by_cases c : f k ≠ 0
    · rw [if_pos c, if_pos ((h k (by omega)).1 c)]
    · rw [if_neg c, if_neg (fun e => c ((h k (by omega)).2 e))]
theorem rm_nz (f : Nat → Int) : ∀ k, ∀ z ∈ rm f k, z ≠ 0
  | 0, z, h => by simp [rm] at h
  | k + 1, z, h => by
    unfold rm at h
    rcases List.mem_append.1 h with h | h
    · exact rm_nz f k z h
    · split at h
      · rename_i c; simp at h; subst h; exact c
      · simp at h
theorem rm_mem (f : Nat → Int) : ∀ k, ∀ z ∈ rm f k, ∃ i, i < k ∧ z = f i
  | 0, z, h => by simp [rm] at h
  | k + 1, z, h => by
    unfold rm at h
    rcases List.mem_append.1 h with h | h
    · obtain ⟨i, hi, e⟩ := rm_mem f k z h; exact ⟨i, by omega, e⟩
    · split at h
      · simp at h; exact ⟨k, by omega, h⟩
      · simp at h
theorem rm_len_le (f : Nat → Int) : ∀ k, (rm f k).length ≤ k
  | 0 => by simp [rm]
  | k + 1 => by unfold rm; rw [List.length_append]; have := rm_len_le f k; split <;> simp <;> omega
theorem rm_pos {f : Nat → Int} {k j : Nat} (h : f j ≠ 0) (hj : j < k) : 0 < (rm f k).length := by
  induction k with
  | zero => omega
  | succ k ih =>
    unfold rm
    rw [List.length_append]
    by_cases e : j = k
    · subst e; rw [if_pos h]; simp
    · have := ih (by omega); omega
/-- Patterns that agree: the lists are as long; and differ where the numbers do. -/
theorem rm_len {f g : Nat → Int} : ∀ {k : Nat}, (∀ i, i < k → (f i ≠ 0 ↔ g i ≠ 0)) → (rm f k).length = (rm g k).length
  | 0, _ => rfl
  | k + 1, h => by
    unfold rm
    rw [List.length_append, List.length_append, rm_len fun i hi => h i (by omega)]
    by_cases c : f k ≠ 0
    · rw [if_pos c, if_pos ((h k (by omega)).1 c)]; rfl
    · rw [if_neg c, if_neg (fun e => c ((h k (by omega)).2 e))]
theorem rm_inj {f g : Nat → Int} : ∀ {k : Nat}, (∀ i, i < k → (f i ≠ 0 ↔ g i ≠ 0)) → rm f k = rm g k → ∀ i, i < k → f i = g i
  | 0, _, _, i, hi => by omega
  | k + 1, h, e, i, hi => by
    unfold rm at e
    have e2 := List.append_inj e (rm_len fun i hi => h i (by omega))
    by_cases c : i = k
    · subst c
      have e3 := e2.2
      by_cases c : f i ≠ 0
      · rw [if_pos c, if_pos ((h i (by omega)).1 c)] at e3; simpa using e3
      · have c2 : ¬ g i ≠ 0 := fun e => c ((h i (by omega)).2 e)
        simp only [ne_eq, Decidable.not_not] at c c2
        rw [c, c2]
    · exact rm_inj (fun i hi => h i (by omega)) e2.1 i (by omega)
theorem mpB_eq {cat : Int} {size m m' : Nat} {f g : Nat → Int} : ∀ {k : Nat}, (∀ i, i < k → (f i ≠ 0 ↔ g i ≠ 0)) → (∀ i, i < k → f i ≠ 0 → (i + 1 = m ↔ i + 1 = m')) → mpB cat size m f k = mpB cat size m' g k
  | 0, _, _ => rfl
  | k + 1, h, h2 => by
    unfold mpB
    rw [mpB_eq (fun i hi => h i (by omega)) (fun i hi => h2 i (by omega))]
    have e := h k (by omega)
    rw [show decide (f k ≠ 0) = decide (g k ≠ 0) from decide_eq_decide.2 e]
    congr 2
    by_cases c : f k ≠ 0 ∧ k + 1 < size
    · rw [if_pos c, if_pos ⟨e.1 c.1, c.2⟩, show decide (k + 1 = m) = decide (k + 1 = m') from decide_eq_decide.2 (h2 k (by omega) c.1)]
    · rw [if_neg c, if_neg (fun x => c ⟨e.2 x.1, x.2⟩)]
theorem mpB_split (cat : Int) (size m : Nat) (f : Nat → Int) : ∀ {k n : Nat}, k ≤ n → ∃ r, mpB cat size m f n = mpB cat size m f k ++ r
  | k, 0, h => by obtain rfl : k = 0 := by omega
                  exact ⟨[], by simp [mpB]⟩
  | k, n + 1, h => by
    by_cases e : k = n + 1
    · subst e; exact ⟨[], by simp⟩
    · obtain ⟨r, hr⟩ := mpB_split cat size m f (show k ≤ n by omega)
      exact ⟨_, by rw [mpB, hr, List.append_assoc]⟩
theorem lvP_split (cat : Int) (r : List Int) : ∀ {k n : Nat}, k ≤ n → ∃ x, lvP cat r n = lvP cat r k ++ x
  | k, 0, h => by obtain rfl : k = 0 := by omega
                  exact ⟨[], by simp [lvP]⟩
  | k, n + 1, h => by
    by_cases e : k = n + 1
    · subst e; exact ⟨[], by simp⟩
    · obtain ⟨x, hx⟩ := lvP_split cat r (show k ≤ n by omega)
      exact ⟨_, by rw [lvP, hx, List.append_assoc]⟩
theorem lvP_eq {cat : Int} {r s : List Int} : ∀ {k : Nat}, r.take k = s.take k → k ≤ r.length → k ≤ s.length → lvP cat r k = lvP cat s k
  | 0, _, _, _ => rfl
  | k + 1, h, h1, h2 => by
    have ht : r.take k = s.take k := by
      have := congrArg (List.take k) h
      rwa [List.take_take, List.take_take, show min k (k + 1) = k by omega] at this
    have hg : r.getD k 0 = s.getD k 0 := by
      have e1 : (r.take (k + 1))[k]? = (s.take (k + 1))[k]? := by rw [h]
      rw [List.getElem?_take_of_lt (by omega), List.getElem?_take_of_lt (by omega)] at e1
      rw [List.getD_eq_getElem?_getD, List.getD_eq_getElem?_getD, e1]
    unfold lvP
    rw [lvP_eq ht (by omega) (by omega), ht, hg]

theorem one_ap {c x y : Int} (h : x ≠ y) (r s : List (Int × Int)) : Ap ((c, x) :: r) ((c, y) :: s) :=
  ⟨0, by simp, by simp, fun j hj => by omega, rfl, h⟩
theorem b1_ne : b1 true ≠ b1 false := by decide
theorem lv_ctx {cat : Int} (h1 : 0 ≤ cat) (h2 : cat ≤ 4) (o g : Nat) : [lvF cat o g, lvR cat g].all okc = true := by
  have a : okc (lvF cat o g) = true := okc_of (by unfold lvF; split <;> omega) (by unfold lvF; split <;> omega)
  have b : okc (lvR cat g) = true := okc_of (by unfold lvR; omega) (by unfold lvR; omega)
  simp [a, b]
/-- Different levels differ first in a bit of one context. -/
theorem lvZ_lt {cat : Int} {o g : Nat} {y z : Int} (hy : y ≠ 0) (hz2 : z.natAbs ≤ 32768) (h : y.natAbs < z.natAbs) : Ap (lvZ cat o g y) (lvZ cat o g z) := by
  unfold lvZ
  by_cases c : y.natAbs ≤ 14
  · rw [decide_eq_true (show ((min (y.natAbs - 1) 14 : Nat) : Int) ≠ 14 by omega)]
    exact Ap.post _ _ (cnt_apart _ _ _ _ (by omega))
  · rw [if_pos (by omega), if_pos (by omega), show min (y.natAbs - 1) 14 = 14 by omega, show min (z.natAbs - 1) 14 = 14 by omega]
    exact Ap.pre _ (Ap.post _ _ (esc_apart (K := 0) (by omega) (by omega) (by omega) (by omega)))
theorem lvZ_apart {cat : Int} {o g : Nat} {y z : Int} (hy : y ≠ 0) (hz : z ≠ 0) (hy2 : y.natAbs ≤ 32768) (hz2 : z.natAbs ≤ 32768) (h : y ≠ z) : Ap (lvZ cat o g y) (lvZ cat o g z) := by
  rcases Nat.lt_trichotomy y.natAbs z.natAbs with hl | hl | hl
  · exact lvZ_lt hy hz2 hl
  · unfold lvZ
    rw [hl]
    refine Ap.pre _ (Ap.pre _ ?_)
    by_cases c : y < 0
    · rw [decide_eq_true c, decide_eq_false (show ¬ z < 0 by omega)]
      exact one_ap b1_ne _ _
    · rw [decide_eq_false c, decide_eq_true (show z < 0 by omega)]
      exact one_ap (fun e => b1_ne e.symm) _ _
  · exact (lvZ_lt hz hy2 hl).symm
theorem first_diff : ∀ {r s : List Int}, r.length = s.length → r ≠ s → ∃ t, t < r.length ∧ r.take t = s.take t ∧ r.getD t 0 ≠ s.getD t 0
  | [], [], _, h => absurd rfl h
  | x :: r, y :: s, hl, h => by
    by_cases e : x = y
    · subst e
      obtain ⟨t, h1, h2, h3⟩ := first_diff (r := r) (s := s) (by simpa using hl) (fun e => h (by rw [e]))
      exact ⟨t + 1, by simpa using h1, by simp [h2], by simpa using h3⟩
    · exact ⟨0, by simp, rfl, by simpa using e⟩
  | [], _ :: _, hl, _ => by simp at hl
  | _ :: _, [], hl, _ => by simp at hl
theorem getD_mem {l : List Int} {t : Nat} (h : t < l.length) : l.getD t 0 ∈ l := by
  rw [List.getD_eq_getElem?_getD, List.getElem?_eq_getElem h]; exact List.getElem_mem _
theorem lvP_apart {cat : Int} {r s : List Int} (hl : r.length = s.length) (hr : ∀ z ∈ r, z ≠ 0 ∧ z.natAbs ≤ 32768) (hs : ∀ z ∈ s, z ≠ 0 ∧ z.natAbs ≤ 32768) (h : r ≠ s) : Ap (lvP cat r r.length) (lvP cat s s.length) := by
  obtain ⟨t, h1, h2, h3⟩ := first_diff hl h
  obtain ⟨x, hx⟩ := lvP_split cat r (show t + 1 ≤ r.length by omega)
  obtain ⟨y, hy⟩ := lvP_split cat s (show t + 1 ≤ s.length by omega)
  rw [hx, hy]
  refine Ap.post _ _ ?_
  unfold lvP
  rw [lvP_eq h2 (by omega) (by omega), h2]
  have m1 := hr _ (getD_mem h1)
  have m2 := hs _ (getD_mem (show t < s.length by omega))
  exact Ap.pre _ (lvZ_apart m1.1 m2.1 m1.2 m2.2 h3)
/-- The patterns differ first at k: there f has a number and g has none. -/
theorem mp_apart {cat : Int} {size : Nat} {f g : Nat → Int} {k : Nat} (hk : k < size) (hp : ∀ i, i < k → (f i ≠ 0 ↔ g i ≠ 0)) (hf : f k ≠ 0) (hg : g k = 0) (hg0 : lk g size ≠ 0) (x y : List (Int × Int)) :
    Ap (mpB cat size (lk f size) f (lk f size) ++ x) (mpB cat size (lk g size) g (lk g size) ++ y) := by
  have hfm : k < lk f size := lk_of hf hk
  have hgs := lk_le g size
  have hfs := lk_le f size
  by_cases c : k < lk g size
  · have hks : k + 1 < size := by
      rcases Nat.lt_or_ge (k + 1) size with h | h
      · exact h
      · exact absurd hg (lk_nz (f := g) (k := size) (j := k) (by omega))
    obtain ⟨r, hr⟩ := mpB_split cat size (lk f size) f (show k + 1 ≤ lk f size by omega)
    obtain ⟨s, hs⟩ := mpB_split cat size (lk g size) g (show k + 1 ≤ lk g size by omega)
    rw [hr, hs]
    refine Ap.post _ _ (Ap.post _ _ ?_)
    unfold mpB
    rw [mpB_eq (m := lk f size) (m' := lk g size) hp (fun i hi _ => by omega)]
    refine Ap.pre _ (Ap.post _ _ ?_)
    rw [if_pos hks, if_pos hks, decide_eq_true hf, decide_eq_false (by simpa using hg)]
    exact one_ap b1_ne _ _
  · obtain ⟨j, hj⟩ : ∃ j, lk g size = j + 1 := ⟨lk g size - 1, by omega⟩
    have hgj : g j ≠ 0 := lk_nz hj
    have hjk : j < k := by
      have : j ≠ k := fun e => hgj (e ▸ hg)
      omega
    have hfj : f j ≠ 0 := (hp j hjk).2 hgj
    obtain ⟨r, hr⟩ := mpB_split cat size (lk f size) f (show j + 1 ≤ lk f size by omega)
    rw [hr, hj]
    refine Ap.post _ _ (Ap.post (r := r) (s := []) ?_ |> fun h => by simpa using h)
    unfold mpB
    rw [mpB_eq (m := lk f size) (m' := j + 1) (fun i hi => hp i (by omega)) (fun i hi _ => by omega)]
    refine Ap.pre _ ?_
    rw [decide_eq_true hfj, decide_eq_true hgj, if_pos (show j + 1 < size by omega)]
    refine Ap.pre _ ?_
    rw [if_pos ⟨hfj, by omega⟩, if_pos ⟨hgj, by omega⟩, decide_eq_false (show ¬ j + 1 = lk f size by omega), decide_eq_true rfl]
    exact one_ap (fun e => b1_ne e.symm) _ _
theorem first_pat (f g : Nat → Int) : ∀ n, (∀ i, i < n → (f i ≠ 0 ↔ g i ≠ 0)) ∨ ∃ k, k < n ∧ (∀ i, i < k → (f i ≠ 0 ↔ g i ≠ 0)) ∧ ¬ (f k ≠ 0 ↔ g k ≠ 0)
  | 0 => Or.inl fun i hi => by omega
  | n + 1 => by
    rcases first_pat f g n with h | ⟨k, h1, h2, h3⟩
    · by_cases c : f n ≠ 0 ↔ g n ≠ 0
      · exact Or.inl fun i hi => by
          by_cases e : i = n
          · subst e; exact c
          · exact h i (by omega)
      · exact Or.inr ⟨n, by omega, h, c⟩
    · exact Or.inr ⟨k, by omega, h2, h3⟩
/-- Bins of different blocks differ first in a bit of one context. -/
theorem blk_apart {cat inc : Int} {size : Nat} {f g : Nat → Int} (hf : ∀ i, (f i).natAbs ≤ 32768) (hg : ∀ i, (g i).natAbs ≤ 32768) (h : ∃ i, i < size ∧ f i ≠ g i) : Ap (blkB cat inc size f) (blkB cat inc size g) := by
  unfold blkB
  by_cases c1 : lk f size = 0
  · by_cases c2 : lk g size = 0
    · obtain ⟨i, hi, he⟩ := h
      exact absurd ((lk_zero (k := size) (by omega) hi).trans (lk_zero (k := size) (f := g) (by omega) hi).symm) he
    · rw [decide_eq_false (by simpa using c1), decide_eq_true c2]
      exact one_ap (fun e => b1_ne e.symm) _ _
  · by_cases c2 : lk g size = 0
    · rw [decide_eq_true c1, decide_eq_false (by simpa using c2)]
      exact one_ap b1_ne _ _
    · rw [decide_eq_true c1, decide_eq_true c2]
      refine Ap.pre (a := blkT cat size f) (b := blkT cat size g) [_] ?_
      unfold blkT
      rw [if_neg c1, if_neg c2]
      rcases first_pat f g size with hp | ⟨k, hk, hp, hn⟩
      · have e := lk_eq hp
        have hle := lk_le f size
        have hpm : ∀ i, i < lk f size → (f i ≠ 0 ↔ g i ≠ 0) := fun i hi => hp i (by omega)
        rw [← e, mpB_eq (m := lk f size) (m' := lk f size) hpm (fun i hi _ => Iff.rfl)]
        refine Ap.pre _ ?_
        have hlen := rm_len hpm
        have hne : rm f (lk f size) ≠ rm g (lk f size) := by
          intro e2
          obtain ⟨i, hi, he⟩ := h
          by_cases c : i < lk f size
          · exact he (rm_inj hpm e2 i c)
          · exact he ((lk_zero (k := size) (by omega) hi).trans (lk_zero (k := size) (f := g) (by omega) hi).symm)
        have := lvP_apart (cat := cat) (r := (rm f (lk f size)).reverse) (s := (rm g (lk f size)).reverse) (by simp [hlen]) (fun z hz => ⟨rm_nz f _ z (by simpa using hz), by obtain ⟨i, _, rfl⟩ := rm_mem f _ z (by simpa using hz); exact hf i⟩) (fun z hz => ⟨rm_nz g _ z (by simpa using hz), by obtain ⟨i, _, rfl⟩ := rm_mem g _ z (by simpa using hz); exact hg i⟩) (fun e => hne (by simpa using congrArg List.reverse e))
        simpa using this
      · by_cases c : f k ≠ 0
        · have c' : g k = 0 := by
            rcases Classical.em (g k = 0) with h | h
            · exact h
            · exact absurd ⟨fun _ => h, fun _ => c⟩ hn
          exact mp_apart hk hp c c' c2 _ _
        · have c0 : f k = 0 := by simpa using c
          have c' : g k ≠ 0 := fun e => hn ⟨fun h => absurd c0 h, fun h => absurd e h⟩
          exact (mp_apart hk (fun i hi => (hp i hi).symm) c' c0 c1 _ _).symm
/-- Two lists are related, bin by bin. -/
def Al2 (P : (Int × Int) → (Int × Int) → Prop) : List (Int × Int) → List (Int × Int) → Prop
  | [], [] => True
  | a :: l, b :: r => P a b ∧ Al2 P l r
  | _, _ => False
theorem Al2.append {P : (Int × Int) → (Int × Int) → Prop} : ∀ {a b c d : List (Int × Int)}, Al2 P a b → Al2 P c d → Al2 P (a ++ c) (b ++ d)
  | [], [], _, _, _, h => h
  | _ :: _, _ :: _, _, _, h, h' => ⟨h.1, h.2.append h'⟩
  | [], _ :: _, _, _, h, _ => h.elim
  | _ :: _, [], _, _, h, _ => h.elim
theorem Al2.length {P : (Int × Int) → (Int × Int) → Prop} : ∀ {a b : List (Int × Int)}, Al2 P a b → b.length = a.length
  | [], [], _ => rfl
  | _ :: _, _ :: _, h => by simp [h.2.length]
  | [], _ :: _, h => h.elim
  | _ :: _, [], h => h.elim
theorem Al2.get {P : (Int × Int) → (Int × Int) → Prop} : ∀ {a b : List (Int × Int)}, Al2 P a b → ∀ i, i < a.length → P (a.getD i (0, 0)) (b.getD i (0, 0))
  | [], [], _, i, hi => by simp at hi
  | _ :: _, _ :: _, h, 0, _ => h.1
  | x :: a, y :: b, h, i + 1, hi => by simpa using h.2.get i (by simpa using hi)
  | [], _ :: _, h, _, _ => h.elim
  | _ :: _, [], h, _, _ => h.elim
theorem Al2.refl {P : (Int × Int) → (Int × Int) → Prop} (h : ∀ a, P a a) : ∀ a, Al2 P a a
  | [] => trivial
  | x :: a => ⟨h x, Al2.refl h a⟩
/-- The same but for bypass bits. -/
def Rsg (a c : Int × Int) : Prop := c.1 = a.1 ∧ (c.2 = a.2 ∨ a.1 < 0)
/-- The same bits, bypass where the other is. -/
def Rot (a d : Int × Int) : Prop := d.2 = a.2 ∧ (d.1 < 0 ↔ a.1 < 0)
theorem Rsg.rfl' (a : Int × Int) : Rsg a a := ⟨rfl, Or.inl rfl⟩
theorem Rot.rfl' (a : Int × Int) : Rot a a := ⟨rfl, Iff.rfl⟩
theorem rm_neg (f : Nat → Int) : ∀ k, rm (fun i => -f i) k = (rm f k).map (fun z => -z)
  | 0 => rfl
  | k + 1 => by
    unfold rm
    rw [rm_neg f k, List.map_append]
    by_cases c : f k = 0
    · simp [c]
    · have : -f k ≠ 0 := by omega
      simp [c]
theorem ones_neg (l : List Int) : ones (l.map (fun z => -z)) = ones l := by
  induction l with
  | nil => rfl
  | cons x l ih => unfold ones at *; simp only [List.map_cons, List.filter_cons, Int.natAbs_neg]; split <;> simp [ih]
theorem lrg_neg (l : List Int) : lrg (l.map (fun z => -z)) = lrg l := by
  induction l with
  | nil => rfl
  | cons x l ih => unfold lrg at *; simp only [List.map_cons, List.filter_cons, Int.natAbs_neg]; split <;> simp only [List.length_cons, ih]
theorem lvZ_neg (cat : Int) (o g : Nat) (z : Int) : Al2 Rsg (lvZ cat o g z) (lvZ cat o g (-z)) := by
  unfold lvZ
  rw [Int.natAbs_neg]
  exact (Al2.refl Rsg.rfl' _).append ((Al2.refl Rsg.rfl' _).append ⟨⟨rfl, Or.inr (show (-1 : Int) < 0 by decide)⟩, trivial⟩)
theorem getD_neg (l : List Int) (t : Nat) : (l.map (fun z => -z)).getD t 0 = -(l.getD t 0) := by
  rw [List.getD_eq_getElem?_getD, List.getD_eq_getElem?_getD, List.getElem?_map]
  cases l[t]? <;> simp
theorem lvP_neg (cat : Int) (r : List Int) : ∀ t, Al2 Rsg (lvP cat r t) (lvP cat (r.map (fun z => -z)) t)
  | 0 => trivial
  | t + 1 => by
    unfold lvP
    rw [← List.map_take, ones_neg, lrg_neg, getD_neg]
    exact (lvP_neg cat r t).append (lvZ_neg _ _ _ _)
/-- Signs change bypass bins alone. -/
theorem blk_neg (cat inc : Int) (size : Nat) (f : Nat → Int) : Al2 Rsg (blkB cat inc size f) (blkB cat inc size (fun i => -f i)) := by
  have hp : ∀ i, i < size → (-f i ≠ 0 ↔ f i ≠ 0) := fun i _ => by omega
  have e : lk (fun i => -f i) size = lk f size := lk_eq hp
  unfold blkB blkT
  rw [e]
  refine ⟨Rsg.rfl' _, ?_⟩
  split
  · trivial
  · rw [mpB_eq (f := fun i => -f i) (g := f) (m' := lk f size) (fun i hi => by omega) (fun i hi _ => Iff.rfl), rm_neg, List.length_map, ← List.map_reverse]
    exact (Al2.refl Rsg.rfl' _).append (lvP_neg _ _ _)
theorem rowAt_nn {a b : Int} (ha : 0 ≤ a) (hb : 0 ≤ b) (i : Nat) : 0 ≤ rowAt [a, b] i := by
  unfold rowAt
  have : min i ([a, b].length - 1) = 0 ∨ min i ([a, b].length - 1) = 1 := by simp; omega
  rcases this with h | h <;> rw [h] <;> simpa
theorem cntP_ot {a b c d : Int} (ha : 0 ≤ a) (hb : 0 ≤ b) (hc : 0 ≤ c) (hd : 0 ≤ d) : ∀ v, Al2 Rot (cntP [a, b] v) (cntP [c, d] v)
  | 0 => by simp [cntP, Al2]
  | v + 1 => by
    rw [cntP_succ, cntP_succ]
    refine (cntP_ot ha hb hc hd v).append ⟨⟨rfl, ?_⟩, trivial⟩
    have := rowAt_nn ha hb v; have := rowAt_nn hc hd v
    simp only; omega
theorem cntB_ot {a b c d : Int} (ha : 0 ≤ a) (hb : 0 ≤ b) (hc : 0 ≤ c) (hd : 0 ≤ d) (v : Nat) (fin : Bool) : Al2 Rot (cntB [a, b] v fin) (cntB [c, d] v fin) := by
  rw [cntB_eq, cntB_eq]
  refine (cntP_ot ha hb hc hd v).append ?_
  cases fin
  · trivial
  · refine ⟨⟨rfl, ?_⟩, trivial⟩
    have := rowAt_nn ha hb v; have := rowAt_nn hc hd v
    simp only; omega
theorem lvF_nn {cat : Int} (h : 0 ≤ cat) (o g : Nat) : 0 ≤ lvF cat o g := by unfold lvF; split <;> omega
theorem lvR_nn {cat : Int} (h : 0 ≤ cat) (g : Nat) : 0 ≤ lvR cat g := by unfold lvR; omega
theorem nmK_nn {cat : Int} (h : 0 ≤ cat) (i : Nat) : 0 ≤ nmK cat i := by unfold nmK; split <;> omega
theorem lvZ_ot {c d : Int} (hc : 0 ≤ c) (hd : 0 ≤ d) (o g : Nat) (z : Int) : Al2 Rot (lvZ c o g z) (lvZ d o g z) := by
  unfold lvZ
  exact (cntB_ot (lvF_nn hc _ _) (lvR_nn hc _) (lvF_nn hd _ _) (lvR_nn hd _) _ _).append (Al2.refl Rot.rfl' _)
theorem lvP_ot {c d : Int} (hc : 0 ≤ c) (hd : 0 ≤ d) (r : List Int) : ∀ t, Al2 Rot (lvP c r t) (lvP d r t)
  | 0 => trivial
  | t + 1 => (lvP_ot hc hd r t).append (lvZ_ot hc hd _ _ _)
theorem one_ot {a b x : Int} (ha : 0 ≤ a) (hb : 0 ≤ b) : Al2 Rot [(a, x)] [(b, x)] := ⟨⟨rfl, by simp only; omega⟩, trivial⟩
theorem mpB_ot {c d : Int} (hc : 0 ≤ c) (hd : 0 ≤ d) (size m : Nat) (f : Nat → Int) : ∀ k, Al2 Rot (mpB c size m f k) (mpB d size m f k)
  | 0 => trivial
  | k + 1 => by
    unfold mpB
    have h1 := nmK_nn hc k; have h2 := nmK_nn hd k
    refine (mpB_ot hc hd size m f k).append (Al2.append ?_ ?_)
    · split
      · exact one_ot (by omega) (by omega)
      · trivial
    · split
      · exact one_ot (by omega) (by omega)
      · trivial
/-- The category changes no bit. -/
theorem blk_other {c d : Int} (hc : 0 ≤ c) (hd : 0 ≤ d) {inc : Int} (hi : 0 ≤ inc) (size : Nat) (f : Nat → Int) : Al2 Rot (blkB c inc size f) (blkB d inc size f) := by
  unfold blkB blkT
  refine ⟨⟨rfl, by simp only; omega⟩, ?_⟩
  split
  · trivial
  · exact (mpB_ot hc hd _ _ _ _).append (lvP_ot hc hd _ _)
theorem escB_size (v : Nat) (h : v ≤ 4294967294) : (escB v 0).length ≤ 200 := by
  have hE : escE v 0 = 0 := if_neg (by simp; omega)
  have := lgN_le (v := v / 2 ^ (0 : Int).toNat) (by simp; omega)
  unfold escB
  rw [if_pos hE, List.length_append, digB_length, digB_length]
  simp at this ⊢
  omega
theorem lvZ_len (cat : Int) (o g : Nat) {z : Int} (hz : z.natAbs ≤ 32768) : 1 ≤ (lvZ cat o g z).length ∧ (lvZ cat o g z).length ≤ 300 := by
  unfold lvZ
  have := escB_size (z.natAbs - 15) (by omega)
  rw [List.length_append, List.length_append, cntB_length]
  split <;> split <;> simp <;> omega
theorem lvP_len (cat : Int) {r : List Int} (hr : ∀ z ∈ r, z.natAbs ≤ 32768) : ∀ t, t ≤ r.length → t ≤ (lvP cat r t).length ∧ (lvP cat r t).length ≤ 300 * t
  | 0, _ => by simp [lvP]
  | t + 1, h => by
    have := lvP_len cat hr t (by omega)
    have h2 := lvZ_len cat (ones (r.take t)) (lrg (r.take t)) (hr _ (getD_mem (show t < r.length by omega)))
    unfold lvP
    rw [List.length_append]
    omega
theorem mpB_len (cat : Int) (size m : Nat) (f : Nat → Int) : ∀ k, (mpB cat size m f k).length ≤ 2 * k
  | 0 => by simp [mpB]
  | k + 1 => by
    have := mpB_len cat size m f k
    unfold mpB
    rw [List.length_append, List.length_append]
    split <;> split <;> simp <;> omega
theorem blk_len {cat inc : Int} {size : Nat} {f : Nat → Int} (hf : ∀ i, (f i).natAbs ≤ 32768) (hs : size ≤ 16) : (blkB cat inc size f).length ≤ 6000 ∧ (lk f size = 0 ↔ (blkB cat inc size f).length = 1) := by
  unfold blkB blkT
  have h1 := lk_le f size
  have h2 := rm_len_le f (lk f size)
  have h3 := mpB_len cat size (lk f size) f (lk f size)
  have h4 := lvP_len cat (r := (rm f (lk f size)).reverse) (fun z hz => by obtain ⟨i, _, rfl⟩ := rm_mem f _ z (by simpa using hz); exact hf i) (rm f (lk f size)).length (by simp)
  rw [List.length_cons]
  split
  · rename_i c
    simp [c]
  · rename_i c
    obtain ⟨j, hj⟩ : ∃ j, lk f size = j + 1 := ⟨lk f size - 1, by omega⟩
    have h5 : 0 < (rm f (lk f size)).length := rm_pos (lk_nz hj) (by omega)
    rw [List.length_append]
    constructor
    · omega
    · constructor
      · intro h; omega
      · intro h; omega
end Go.Proofs.YtchoiimmcgkimaaDoor
