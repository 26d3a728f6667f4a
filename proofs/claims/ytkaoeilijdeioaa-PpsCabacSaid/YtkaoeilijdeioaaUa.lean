/- Elements at a place of a string, forward and back. -/
import Derived.Test.YtkaoeilijdeioaaUz
namespace Go.Proofs.Ytkaoeilijdeioaa
open Go.RowKit
set_option linter.unusedVariables false
set_option maxRecDepth 100000
set_option linter.unusedSimpArgs false

/-- From place i on the bits are X. -/
def At (s : ByteArray) (i : Nat) (X : List Bool) : Prop := i ≤ 8 * s.size ∧ (sbits s).drop i = X
theorem At.zero (s : ByteArray) : At s 0 (sbits s) := ⟨by omega, rfl⟩
theorem At.split {s : ByteArray} {i : Nat} {C R : List Bool} (h : At s i (C ++ R)) : i + C.length ≤ 8 * s.size ∧ seg (sbits s) i C.length = C ∧ At s (i + C.length) R := by
  obtain ⟨h1, h2⟩ := h
  have hl := congrArg List.length h2
  rw [List.length_drop, sbits_length, List.length_append] at hl
  refine ⟨by omega, ?_, by omega, ?_⟩
  · unfold seg; rw [h2]; simp
  · rw [← List.drop_drop, h2]; simp
theorem At.of_seg {s : ByteArray} {i : Nat} {C : List Bool} (hl : i + C.length ≤ 8 * s.size) (h : seg (sbits s) i C.length = C) : At s i (C ++ (sbits s).drop (i + C.length)) := by
  refine ⟨by omega, ?_⟩
  have h2 : List.take C.length ((sbits s).drop i) = C := h
  have h3 := List.take_append_drop C.length ((sbits s).drop i)
  rw [h2, List.drop_drop] at h3
  exact h3.symm
theorem at_fx {s : ByteArray} {i n v : Nat} {R : List Bool} (h : At s i (bitsN n v ++ R)) (hn : n ≤ 8) (hv : v < 2 ^ n) : fxR s n (0, i) = (v, 0, i + n) ∧ At s (i + n) R := by
  obtain ⟨h1, h2, h3⟩ := h.split
  rw [bitsN_length] at h1 h2 h3
  refine ⟨?_, h3⟩
  rw [fxR_zero]
  have e1 : uE s i (n : Int) = 0 := uE_ok (by omega) h1
  rw [e1, uI_ok (by omega) h1, uV_ok (by omega) h1, h2, natB_bitsN_lt hv]
theorem at_ue {s : ByteArray} {i v : Nat} {R : List Bool} (h : At s i (ueB v ++ R)) (hv : v ≤ 4294967294) : ueE s i = 0 ∧ ueV s i = v ∧ ueI s i = i + (ueB v).length ∧ At s (i + (ueB v).length) R := by
  obtain ⟨h1, h2, h3⟩ := h.split
  obtain ⟨g1, g2, g3⟩ := ue_back' hv h1 h2
  exact ⟨g1, g2, g3, h3⟩
theorem at_nm {s : ByteArray} {i v : Nat} {R : List Bool} (h : At s i (ueB v ++ R)) {m : Nat} {wr : Int} (hm : m ≤ 4294967294) (hv : v ≤ m) : nmR s m wr (0, i) = (v, 0, i + (ueB v).length) ∧ At s (i + (ueB v).length) R := by
  obtain ⟨g1, g2, g3, g4⟩ := at_ue h (by omega)
  refine ⟨?_, g4⟩
  rw [nmR_zero, g1, g2, g3]
  unfold lkE
  rw [if_pos rfl, if_neg (by omega)]
theorem at_end {s : ByteArray} {i : Nat} (h : At s i (trB i)) : enE s i false = 0 := by
  rw [only_law h.1]
  have e : seg (sbits s) 0 i ++ trB i = sbits s := by
    rw [← h.2]; unfold seg; simp
  rw [e, pstr_sbits]
theorem kd_true {wr e : Int} {i : Nat} : kdR true wr (e, i) = (e, i) := by unfold kdR; rw [if_neg (by simp)]

/-- What was read without an error lies there. -/
theorem fx_fwd {s : ByteArray} {n i v i' : Nat} {e : Int} (hn : n ≤ 8) (h : fxR s n (e, i) = (v, 0, i')) : e = 0 ∧ i' = i + n ∧ (i ≤ 8 * s.size → i + n ≤ 8 * s.size) ∧ seg (sbits s) i n = bitsN n v ∧ v < 2 ^ n := by
  have hlt := fxR_lt h
  by_cases c : e = 0
  · subst c
    rw [fxR_zero] at h
    obtain ⟨h1, h2⟩ := Prod.mk.inj h
    obtain ⟨h2, h3⟩ := Prod.mk.inj h2
    have h4 := seg_uV' (n := n) (by omega) h2
    rw [h1] at h4
    refine ⟨rfl, ?_, ?_, h4, hlt⟩
    · rw [← h3]; unfold uI; rw [if_pos h2]; simp
    · intro hi; rw [uE_nat (by omega)] at h2; split at h2 <;> omega
  · rw [fxR_not _ _ _ c] at h
    exact absurd (Prod.mk.inj (Prod.mk.inj h).2).1 c
theorem nm_fwd {s : ByteArray} {m i v i' : Nat} {wr e : Int} (hw : wr ≠ 0) (h : nmR s m wr (e, i) = (v, 0, i')) : e = 0 ∧ v ≤ m ∧ i' = i + (ueB v).length ∧ i + (ueB v).length ≤ 8 * s.size ∧ seg (sbits s) i (ueB v).length = ueB v := by
  by_cases c : e = 0
  · subst c
    rw [nmR_zero] at h
    obtain ⟨h1, h2⟩ := Prod.mk.inj h
    obtain ⟨h2, h3⟩ := Prod.mk.inj h2
    have he : ueE s i = 0 := by
      unfold lkE at h2
      split at h2
      · assumption
      · exact h2
    have hv : v ≤ m := by
      unfold lkE at h2
      rw [if_pos he] at h2
      split at h2
      · exact absurd h2 hw
      · omega
    obtain ⟨g1, g2, g3⟩ := ue_bits he
    have gl := congrArg List.length g1
    rw [seg_length (by rw [sbits_length]; exact g3)] at gl
    rw [h1] at g1 gl
    refine ⟨rfl, hv, ?_, by omega, ?_⟩
    · rw [← h3, g2, gl]
    · rw [gl]; exact g1.symm
  · rw [nmR_not _ _ _ _ c] at h
    exact absurd (Prod.mk.inj (Prod.mk.inj h).2).1 c
theorem kd_fwd {b : Bool} {wr e : Int} {i i' : Nat} (hw : wr ≠ 0) (h : kdR b wr (e, i) = (0, i')) : e = 0 ∧ b = true ∧ i' = i := by
  unfold kdR at h
  split at h
  · exact absurd (Prod.mk.inj h).1 hw
  · rename_i hc
    obtain ⟨h1, h2⟩ := Prod.mk.inj h
    refine ⟨h1, ?_, h2.symm⟩
    cases b
    · exact absurd ⟨h1, rfl⟩ hc
    · rfl
theorem seg_join {S A C : List Bool} {i n : Nat} (h1 : seg S 0 i = A) (h2 : seg S i n = C) : seg S 0 (i + n) = A ++ C := by rw [seg_add, h1, Nat.zero_add, h2]

/-- Where the bits end first. -/
theorem cut_fx {s t : ByteArray} {Z R : List Bool} {i n v : Nat} (hst : sbits t = sbits s ++ Z) (hi : i ≤ 8 * s.size) (h : At t i (bitsN n v ++ R)) (hn : n ≤ 8) :
    (i + n ≤ 8 * s.size ∧ ∃ R', At s i (bitsN n v ++ R')) ∨ ∀ v' e' i', fxR s n (0, i) = (v', e', i') → e' = 5 := by
  by_cases c : i + n ≤ 8 * s.size
  · refine Or.inl ⟨c, (sbits s).drop (i + n), hi, ?_⟩
    obtain ⟨h1, h2, h3⟩ := h.split
    rw [bitsN_length] at h1 h2 h3
    rw [hst, seg_append_left (by rw [sbits_length]; exact c)] at h2
    have := (At.of_seg (s := s) (i := i) (C := bitsN n v) (by rw [bitsN_length]; exact c) (by rw [bitsN_length]; exact h2)).2
    rwa [bitsN_length] at this
  · refine Or.inr fun v' e' i' hx => ?_
    rw [fxR_zero] at hx
    have := (Prod.mk.inj (Prod.mk.inj hx).2).1
    rw [← this, uE_nat (by omega), if_pos (by omega)]
theorem gz_cut {s t : ByteArray} {Z : List Bool} {i : Nat} (hst : sbits t = sbits s ++ Z) (hi : i ≤ 8 * s.size) (hg : gz t i < 32) (hc : 8 * s.size < i + (2 * gz t i + 1)) : gz s i < 32 ∧ 8 * s.size - i < 2 * gz s i + 1 := by
  have hone : ∀ k, i + k < 8 * s.size → uV s (i + k) 1 = uV t (i + k) 1 ∧ uE s (i + k) 1 = 0 ∧ uE t (i + k) 1 = 0 := by
    intro k hk
    have hsz := congrArg List.length hst
    rw [sbits_length, List.length_append, sbits_length] at hsz
    have e1 : uE s (i + k) 1 = 0 := uE_one.2 hk
    have e2 : uE t (i + k) 1 = 0 := uE_one.2 (by omega)
    refine ⟨?_, e1, e2⟩
    unfold uV
    rw [if_pos e1, if_pos e2, hst]
    show natB (seg (sbits s) (i + k) 1) = natB (seg (sbits s ++ Z) (i + k) 1)
    rw [seg_append_left (by rw [sbits_length]; omega)]
  have hzt : Zs t i (gz t i) := zr_zs
  have hend : ¬ (uE t (i + gz t i) 1 = 0 ∧ uV t (i + gz t i) 1 = 0) := zr_end hg
  by_cases c : i + gz t i < 8 * s.size
  · have hzs : Zs s i (gz t i) := fun k hk => by
      obtain ⟨x1, x2, x3⟩ := hone k (by omega)
      exact ⟨x2, x1.trans (hzt k hk).2⟩
    obtain ⟨x1, x2, x3⟩ := hone (gz t i) c
    have : gz s i = gz t i := gz_stop hzs hg (fun hh => hend ⟨x3, by rw [← x1]; exact hh.2⟩)
    rw [this]
    exact ⟨hg, by omega⟩
  · obtain ⟨m, hm⟩ : ∃ m, m = 8 * s.size - i := ⟨_, rfl⟩
    have hzs : Zs s i m := fun k hk => by
      obtain ⟨x1, x2, x3⟩ := hone k (by omega)
      exact ⟨x2, x1.trans (hzt k (by omega)).2⟩
    have : gz s i = m := gz_stop hzs (by omega) (fun hh => by
      have := uE_one.1 hh.1
      omega)
    rw [this]
    exact ⟨by omega, by omega⟩
theorem cut_nm {s t : ByteArray} {Z R : List Bool} {i v : Nat} (hst : sbits t = sbits s ++ Z) (hi : i ≤ 8 * s.size) (h : At t i (ueB v ++ R)) (hv : v ≤ 4294967294) {m : Nat} {wr : Int} :
    (i + (ueB v).length ≤ 8 * s.size ∧ ∃ R', At s i (ueB v ++ R')) ∨ ∀ v' e' i', nmR s m wr (0, i) = (v', e', i') → e' = 5 := by
  by_cases c : i + (ueB v).length ≤ 8 * s.size
  · refine Or.inl ⟨c, (sbits s).drop (i + (ueB v).length), ?_⟩
    obtain ⟨h1, h2, h3⟩ := h.split
    rw [hst, seg_append_left (by rw [sbits_length]; exact c)] at h2
    exact At.of_seg c h2
  · refine Or.inr fun v' e' i' hx => ?_
    obtain ⟨h1, h2, h3⟩ := h.split
    rw [ueB_length] at h1 h2 c
    obtain ⟨g1, g2, g3, g4⟩ := ue_back hv h1 (by rw [h2, ueB_nat])
    have := ueN_le hv
    obtain ⟨k1, k2⟩ := gz_cut hst hi (by rw [g4]; omega) (by rw [g4]; omega)
    have he : ueE s i = 5 := by
      unfold ueE
      rw [if_neg (by omega), uE_nat (by omega), if_pos k2]
    rw [nmR_zero] at hx
    have := (Prod.mk.inj (Prod.mk.inj hx).2).1
    rw [← this, he]
    rfl

/-- Codes that begin alike are alike. -/
theorem bitsN_pre {n v w : Nat} {R T : List Bool} (hv : v < 2 ^ n) (hw : w < 2 ^ n) (h : bitsN n v ++ R = bitsN n w ++ T) : v = w ∧ R = T := by
  obtain ⟨h1, h2⟩ := List.append_inj h (by rw [bitsN_length, bitsN_length])
  exact ⟨bitsN_inj hv hw h1, h2⟩
theorem at_pstr (B : List Bool) : ∃ Z, At (pstr B) 0 (B ++ Z) := ⟨_, by omega, sbits_pstr B⟩
theorem ueB_pre {v w : Nat} {R T : List Bool} (hv : v ≤ 4294967294) (hw : w ≤ 4294967294) (h : ueB v ++ R = ueB w ++ T) : v = w ∧ R = T := by
  obtain ⟨Z, hZ⟩ := at_pstr (ueB v ++ R)
  have hZ2 := hZ
  rw [h, List.append_assoc] at hZ2
  rw [List.append_assoc] at hZ
  have e1 := (at_ue hZ hv).2.1
  rw [h] at e1
  have e2 := (at_ue hZ2 hw).2.1
  have e3 : v = w := e1.symm.trans e2
  subst e3
  exact ⟨rfl, List.append_cancel_left h⟩
theorem ueN_lt {v k : Nat} (h : v + 1 < 2 ^ (k + 1)) : ueN v ≤ k := by
  obtain ⟨g1, g2⟩ := ueN_bounds v
  have : 2 ^ ueN v < 2 ^ (k + 1) := Nat.lt_of_le_of_lt g1 h
  have := (Nat.pow_lt_pow_iff_right (a := 2) (by omega)).1 this
  omega
theorem enE_four {s : ByteArray} {i : Nat} (h : i < 8 * s.size) (h0 : enE s i false ≠ 0) : enE s i false = 4 := by
  unfold enE at h0 ⊢
  rw [if_neg (by omega)] at h0 ⊢
  split
  · rename_i hc; rw [if_pos hc] at h0; exact absurd rfl h0
  · rfl
theorem enE_45 {s : ByteArray} {i : Nat} (h0 : enE s i false ≠ 0) : enE s i false = 4 ∨ enE s i false = 5 := by
  unfold enE at h0 ⊢
  by_cases c : 8 * s.size ≤ i
  · rw [if_pos c]; exact Or.inr rfl
  · rw [if_neg c] at h0 ⊢
    left
    split
    · rename_i hc; rw [if_pos hc] at h0; exact absurd rfl h0
    · rfl
end Go.Proofs.Ytkaoeilijdeioaa
