/- What is written is read back: plain facts on levels. -/
import Derived.Test.YtmlkkeabgnhhnaaLs
namespace Go.Proofs.Ytmlkkeabgnhhnaa
open Go.RowKit
set_option linter.unusedVariables false
set_option maxRecDepth 100000
set_option linter.unusedSimpArgs false

theorem u_app {s : ByteArray} {A C R : List Bool} (h : sbits s = A ++ (C ++ R)) (hn : C.length ≤ 64) : uE s A.length (C.length : Int) = 0 ∧ uV s A.length (C.length : Int) = natB C := by
  have hl := congrArg List.length h
  rw [sbits_length, List.length_append, List.length_append] at hl
  have e : uE s A.length (C.length : Int) = 0 := by rw [uE_nat hn, if_neg (by omega)]
  refine ⟨e, ?_⟩
  unfold uV
  rw [if_pos e, h]
  have := seg_append_right A (C ++ R) 0 C.length
  rw [Nat.add_zero] at this
  rw [show ((C.length : Nat) : Int).toNat = C.length from rfl, this, seg_append_left (by omega)]
  simp [seg]
theorem u_bit_at {s : ByteArray} {A R : List Bool} {x : Bool} (h : sbits s = A ++ (x :: R)) : uE s A.length 1 = 0 ∧ uV s A.length 1 = x.toNat := by
  have := u_app (s := s) (A := A) (C := [x]) (R := R) h (by simp)
  rw [natB_one] at this
  exact this
theorem bitsN_one (P : Nat) : bitsN (P + 1) 1 = List.replicate P false ++ [true] := by
  rw [bitsN_append P 1 1, show (1 : Nat) / 2 ^ 1 = 0 from rfl, bitsN_zero]
  rfl
theorem zs_app {s : ByteArray} {A R : List Bool} {P : Nat} (h : sbits s = A ++ (List.replicate P false ++ R)) : Zs s A.length P := by
  intro k hk
  have e : sbits s = (A ++ List.replicate k false) ++ (false :: (List.replicate (P - k - 1) false ++ R)) := by
    rw [h, List.append_assoc]
    congr 1
    rw [show P = k + (1 + (P - k - 1)) by omega, ← List.replicate_append_replicate, ← List.replicate_append_replicate]
    simp
  have := u_bit_at e
  rw [List.length_append, List.length_replicate] at this
  exact this
theorem parts_back {K c : Nat} (hK : K ≤ 6) (hc : c ≤ mst K) : nS K (cP K c) = cN K c ∧ bS K (cP K c) + cV K c = c := by
  revert hc
  refine seven (P := fun K => c ≤ mst K → nS K (cP K c) = cN K c ∧ bS K (cP K c) + cV K c = c) ?_ ?_ ?_ ?_ ?_ ?_ ?_ hK
  all_goals
    intro hc
    unfold nS bS cP cV cN
    simp [mst, esc] at hc ⊢
    (repeat' split) <;> first | omega | (simp; omega) | (simp; done)
theorem code_back {s : ByteArray} {A R : List Bool} {K c : Nat} (hK : K ≤ 6) (hc : c ≤ mst K) (h : sbits s = A ++ (lcode K c ++ R)) :
    gL s A.length = cP K c ∧ uE s (A.length + cP K c) 1 = 0 ∧ uE s (A.length + cP K c + 1) (cN K c : Int) = 0 ∧ uV s (A.length + cP K c + 1) (cN K c : Int) = cV K c := by
  obtain ⟨o1, o2, o3, o4⟩ := code_ok hK hc
  unfold lcode at h
  rw [bitsN_one] at h
  have hz : Zs s A.length (cP K c) := zs_app (R := [true] ++ bitsN (cN K c) (cV K c) ++ R) (by rw [h]; simp)
  have h1 := u_bit_at (s := s) (A := A ++ List.replicate (cP K c) false) (x := true) (R := bitsN (cN K c) (cV K c) ++ R) (by rw [h]; simp)
  rw [List.length_append, List.length_replicate] at h1
  have h2 := u_app (s := s) (A := A ++ List.replicate (cP K c) false ++ [true]) (C := bitsN (cN K c) (cV K c)) (R := R) (by rw [h]; simp) (by rw [bitsN_length]; omega)
  rw [bitsN_length, natB_bitsN_lt o2, List.length_append, List.length_append, List.length_replicate, List.length_singleton] at h2
  exact ⟨gL_stop hz o1 (fun hh => by rw [h1.2] at hh; exact absurd hh.2 (by decide)), h1.1, h2.1, h2.2⟩
theorem lvl_lnum {v : Int} (hv : v ≠ 0) : lvl (lnum v) = v ∧ lnum v / 2 + 1 = v.natAbs := by
  unfold lvl lnum
  by_cases hs : v < 0
  · rw [if_pos hs, if_pos (by omega)]; omega
  · rw [if_neg hs, if_neg (by omega)]; omega
theorem lpE_ok {K l sk : Nat} {v : Int} (hE : lpE K l sk v = 0) (hsk : sk = 0 ∨ sk = 2) : l ≠ 0 ∧ v ≠ 0 ∧ sk ≤ lnum v ∧ lnum v ≤ mst K + sk := by
  unfold lpE at hE
  by_cases h1 : l = 0
  · rw [if_pos h1] at hE; omega
  rw [if_neg h1] at hE
  by_cases h2 : v = 0 ∨ (0 < sk ∧ v.natAbs = 1)
  · rw [if_pos h2] at hE; omega
  rw [if_neg h2] at hE
  by_cases h3 : mst K + sk < lnum v
  · rw [if_pos h3] at hE; omega
  refine ⟨h1, fun h => h2 (Or.inl h), ?_, by omega⟩
  unfold lnum
  rcases hsk with rfl | rfl
  · omega
  · have : ¬ v.natAbs = 1 := fun h => h2 (Or.inr ⟨by omega, h⟩)
    have : ¬ v = 0 := fun h => h2 (Or.inl h)
    omega
theorem lread_back {s : ByteArray} {A R : List Bool} {K l sk : Nat} {v : Int} (hK : K ≤ 6) (hsk : sk = 0 ∨ sk = 2) (hE : lpE K l sk v = 0) (h : sbits s = A ++ (lcode K (lnum v - sk) ++ R)) :
    lrE K l s A.length = 0 ∧ lrV K l sk s A.length = v ∧ lrI K l s A.length = A.length + (lcode K (lnum v - sk)).length ∧ lrK K l sk s A.length = lpK K l sk v ∧ lrL K l s A.length = lpL K l sk v ∧ lrS K l sk s A.length = lpS K l sk v := by
  obtain ⟨h1, h2, h3, h4⟩ := lpE_ok hE hsk
  have hc : lnum v - sk ≤ mst K := by omega
  obtain ⟨c1, c2, c3, c4⟩ := code_back hK hc h
  obtain ⟨p1, p2⟩ := parts_back hK hc
  obtain ⟨o1, o2, o3, o4⟩ := code_ok hK hc
  obtain ⟨v1, v2⟩ := lvl_lnum h2
  have e : lrE K l s A.length = 0 := by
    unfold lrE
    rw [if_neg h1, c1, if_neg (by omega), if_neg (fun h => h c2), p1, c3]
  have n : lrN K sk s A.length = lnum v := by
    unfold lrN
    rw [c1, p1, c4]
    omega
  refine ⟨e, ?_, ?_, ?_, ?_, ?_⟩
  · unfold lrV; rw [if_pos e, n, v1]
  · unfold lrI; rw [if_pos e, c1, p1]; unfold lcode; rw [List.length_append, bitsN_length, bitsN_length]; omega
  · unfold lrK lpK; rw [if_pos e, if_pos hE, n, v2]
  · unfold lrL lpL; rw [if_pos e, if_pos hE]
  · unfold lrS lpS; rw [if_pos e, if_pos hE]

/-- The state after levels: length, left, skip, the bits. -/
structure LSt where
  K : Nat
  l : Nat
  s : Nat
  B : List Bool
def LSt.put (x : LSt) (v : Int) : LSt := ⟨lpK x.K x.l x.s v, lpL x.K x.l x.s v, lpS x.K x.l x.s v, lpB x.B x.K x.l x.s v⟩
def LSt.puts (x : LSt) (vs : List Int) : LSt := vs.foldl LSt.put x
def LSt.start (t o : Nat) : LSt := ⟨k0 t o, t - o, s0 o, []⟩
theorem LSt.puts_snoc (x : LSt) (vs : List Int) (v : Int) : x.puts (vs ++ [v]) = (x.puts vs).put v := by simp [LSt.puts]

theorem esc_even {K : Nat} (hK : K ≤ 6) : esc K % 2 = 0 := seven (P := fun K => esc K % 2 = 0) rfl rfl rfl rfl rfl rfl rfl hK
/-- A level up to Most has a code. -/
theorem fit_ok {K l sk : Nat} {x : Int} (hK : K ≤ 6) (hl : l ≠ 0) (h1 : 1 ≤ x.natAbs) (h2 : x.natAbs ≤ lmost K l sk) (h3 : 0 < sk → 2 ≤ x.natAbs) (hsk : sk = 0 ∨ sk = 2) : lpE K l sk x = 0 := by
  have he := esc_even hK
  unfold lmost at h2
  rw [if_neg hl] at h2
  unfold lpE
  rw [if_neg hl, if_neg (by omega), if_neg]
  unfold lnum
  have hm : mst K % 2 = 1 := by unfold mst; omega
  split <;> omega
theorem lcode_length {K c : Nat} (hK : K ≤ 6) (hc : c ≤ mst K) : (lcode K c).length ≤ 28 := by
  obtain ⟨o1, o2, o3, o4⟩ := code_ok hK hc
  unfold lcode
  rw [List.length_append, bitsN_length, bitsN_length]
  omega
theorem put_ok {B : List Bool} {K l sk : Nat} {v : Int} (hK : K ≤ 6) (hsk : sk = 0 ∨ sk = 2) (hE : lpE K l sk v = 0) :
    lpK K l sk v ≤ 6 ∧ lpL K l sk v = l - 1 ∧ lpS K l sk v = 0 ∧ lpB B K l sk v = B ++ lcode K (lnum v - sk) ∧ (lpB B K l sk v).length ≤ B.length + 28 := by
  obtain ⟨h1, h2, h3, h4⟩ := lpE_ok hE hsk
  have e : lpB B K l sk v = B ++ lcode K (lnum v - sk) := if_pos hE
  refine ⟨by unfold lpK; rw [if_pos hE]; exact nxt_le _ _ hK, by unfold lpL; rw [if_pos hE], if_pos hE, e, ?_⟩
  rw [e, List.length_append]
  have := lcode_length hK (c := lnum v - sk) (by omega)
  omega
theorem LSt.pre (x : LSt) (vs : List Int) : ∃ R, (x.puts vs).B = x.B ++ R := by
  induction vs generalizing x with
  | nil => exact ⟨[], by simp [LSt.puts]⟩
  | cons v vs ih =>
    obtain ⟨R, hR⟩ := ih (x.put v)
    have e : (x.puts (v :: vs)) = (x.put v).puts vs := rfl
    rw [e, hR]
    show ∃ R', lpB x.B x.K x.l x.s v ++ R = x.B ++ R'
    unfold lpB
    split
    · exact ⟨_, List.append_assoc ..⟩
    · exact ⟨_, rfl⟩
theorem LSt.puts_app (x : LSt) (a b : List Int) : x.puts (a ++ b) = (x.puts a).puts b := by simp [LSt.puts]
def LGood (x : LSt) (vs : List Int) : Prop := ∀ j (hj : j < vs.length), (fun y : LSt => lpE y.K y.l y.s vs[j]) (x.puts (vs.take j)) = 0 ∧ (x.puts (vs.take j)).K ≤ 6 ∧ ((x.puts (vs.take j)).s = 0 ∨ (x.puts (vs.take j)).s = 2)
theorem LGood.snoc {x : LSt} {vs : List Int} {v : Int} (h : LGood x vs) (h1 : lpE (x.puts vs).K (x.puts vs).l (x.puts vs).s v = 0) (h2 : (x.puts vs).K ≤ 6) (h3 : (x.puts vs).s = 0 ∨ (x.puts vs).s = 2) : LGood x (vs ++ [v]) := by
  intro j hj
  rw [List.length_append, List.length_singleton] at hj
  by_cases c : j < vs.length
  · have := h j c
    rw [List.take_append_of_le_length (by omega)]
    rw [List.getElem_append_left c]
    exact this
  · obtain rfl : j = vs.length := by omega
    rw [List.take_left']
    · simp
      exact ⟨h1, h2, h3⟩
    · rfl
theorem LGood.nil (x : LSt) : LGood x [] := fun j hj => absurd hj (by simp)
/-- The j-th level, read at its place. -/
theorem LGood.read {x : LSt} {vs : List Int} {S : ByteArray} {R : List Bool} (h : LGood x vs) (hS : sbits S = (x.puts vs).B ++ R) {j : Nat} (hj : j < vs.length) {K l s : Nat} {B : List Bool} (e : x.puts (vs.take j) = ⟨K, l, s, B⟩) :
    ∃ K' l' s' B', x.puts (vs.take (j + 1)) = ⟨K', l', s', B'⟩ ∧ lrE K l S B.length = 0 ∧ lrV K l s S B.length = vs[j] ∧ lrI K l S B.length = B'.length ∧ lrK K l s S B.length = K' ∧ lrL K l S B.length = l' ∧ lrS K l s S B.length = s' ∧ K' ≤ 6 ∧ l' = l - 1 ∧ s' = 0 := by
  obtain ⟨h1, h2, h3⟩ := h j hj
  rw [e] at h1 h2 h3
  simp only at h1 h2 h3
  obtain ⟨p1, p2, p3, p4, p5⟩ := put_ok (B := B) h2 h3 h1
  have e2 : x.puts (vs.take (j + 1)) = ⟨lpK K l s vs[j], lpL K l s vs[j], lpS K l s vs[j], lpB B K l s vs[j]⟩ := by
    rw [List.take_succ_eq_append_getElem hj, LSt.puts_snoc, e]
    rfl
  obtain ⟨R2, hR2⟩ := LSt.pre (x.puts (vs.take (j + 1))) (vs.drop (j + 1))
  rw [← LSt.puts_app, List.take_append_drop, e2] at hR2
  simp only at hR2
  have hb := lread_back (s := S) (A := B) (R := R2 ++ R) h2 h3 h1 (by rw [hS, hR2, p4]; simp only [List.append_assoc])
  obtain ⟨q1, q2, q3, q4, q5, q6⟩ := hb
  exact ⟨_, _, _, _, e2, q1, q2, by rw [q3, p4, List.length_append], q4, q5, q6, p1, p2, p3⟩

end Go.Proofs.Ytmlkkeabgnhhnaa
