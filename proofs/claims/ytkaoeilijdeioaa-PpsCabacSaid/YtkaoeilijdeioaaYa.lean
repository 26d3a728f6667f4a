/- Signed elements at a place of a string, forward and back. -/
import Derived.Test.YtkaoeilijdeioaaUa
import Derived.Test.YtkaoeilijdeioaaYp
namespace Go.Proofs.Ytkaoeilijdeioaa
open Go.RowKit
set_option linter.unusedVariables false
set_option maxRecDepth 100000
set_option linter.unusedSimpArgs false

theorem seN_seV (s : ByteArray) (i : Nat) : seN (seV s i) = ueV s i := by unfold seN seV; split <;> split <;> omega
theorem seN_inj {a b : Int} (h : seN a = seN b) : a = b := by unfold seN at h; split at h <;> split at h <;> omega
theorem seN_le1000 {t : Int} (h1 : -1000 ≤ t) (h2 : t ≤ 1000) : seN t ≤ 4294967294 := by unfold seN; split <;> omega
theorem at_sg {s : ByteArray} {i : Nat} {t : Int} {R : List Bool} (h : At s i (ueB (seN t) ++ R)) {lo hi : Int} (h0 : -1000 ≤ lo) (h9 : hi ≤ 1000) (h1 : lo ≤ t) (h2 : t ≤ hi) : sgR s lo hi (0, i) = (t, 0, i + (ueB (seN t)).length) ∧ At s (i + (ueB (seN t)).length) R := by
  obtain ⟨g1, g2, g3, g4⟩ := at_ue h (seN_le1000 (by omega) (by omega))
  refine ⟨?_, g4⟩
  have g5 := se_back g2
  rw [sgR_zero, g1, g3, g5]
  unfold sgE
  rw [if_pos rfl, if_pos ⟨h1, h2⟩]
theorem sg_fwd {s : ByteArray} {i i' : Nat} {e t lo hi : Int} (h : sgR s lo hi (e, i) = (t, 0, i')) : e = 0 ∧ lo ≤ t ∧ t ≤ hi ∧ i' = i + (ueB (seN t)).length ∧ i + (ueB (seN t)).length ≤ 8 * s.size ∧ seg (sbits s) i (ueB (seN t)).length = ueB (seN t) := by
  by_cases c : e = 0
  · subst c
    rw [sgR_zero] at h
    obtain ⟨h1, h2⟩ := Prod.mk.inj h
    obtain ⟨h2, h3⟩ := Prod.mk.inj h2
    have he : ueE s i = 0 := by
      unfold sgE at h2
      split at h2
      · assumption
      · exact h2
    have hv : lo ≤ t ∧ t ≤ hi := by
      unfold sgE at h2
      rw [if_pos he, h1] at h2
      split at h2
      · assumption
      · exact absurd h2 (by decide)
    have hn : seN t = ueV s i := by rw [← h1]; exact seN_seV s i
    obtain ⟨g1, g2, g3⟩ := ue_bits he
    have gl := congrArg List.length g1
    rw [seg_length (by rw [sbits_length]; exact g3)] at gl
    rw [← hn] at g1 gl
    refine ⟨rfl, hv.1, hv.2, ?_, by omega, ?_⟩
    · rw [← h3, g2, gl]
    · rw [gl]; exact g1.symm
  · rw [sgR_not _ _ _ _ c] at h
    exact absurd (Prod.mk.inj (Prod.mk.inj h).2).1 c
theorem sg_stay {s : ByteArray} {i i2 : Nat} {lo hi t e e2 : Int} (h : sgR s lo hi (e, i) = (t, e2, i2)) (he : e ≠ 0) : e2 = e := by rw [sgR_not _ _ _ _ he] at h; exact (Prod.mk.inj (Prod.mk.inj h).2).1.symm
theorem cut_sg {s t : ByteArray} {Z R : List Bool} {i : Nat} {v : Int} (hst : sbits t = sbits s ++ Z) (hi : i ≤ 8 * s.size) (h : At t i (ueB (seN v) ++ R)) (h1 : -1000 ≤ v) (h2 : v ≤ 1000) {lo hi' : Int} :
    (i + (ueB (seN v)).length ≤ 8 * s.size ∧ ∃ R', At s i (ueB (seN v) ++ R')) ∨ ∀ v' e' i', sgR s lo hi' (0, i) = (v', e', i') → e' = 5 := by
  rcases cut_nm (m := 0) (wr := 9) hst hi h (seN_le1000 h1 h2) with c | c
  · exact Or.inl c
  · refine Or.inr fun v' e' i' hx => ?_
    have := c _ _ _ (nmR_zero s 0 9 i)
    have he : ueE s i = 5 := by
      unfold lkE at this
      split at this
      · split at this <;> simp at this
      · exact this
    rw [sgR_zero] at hx
    have h5 := (Prod.mk.inj (Prod.mk.inj hx).2).1
    rw [← h5, he]
    rfl
end Go.Proofs.Ytkaoeilijdeioaa
