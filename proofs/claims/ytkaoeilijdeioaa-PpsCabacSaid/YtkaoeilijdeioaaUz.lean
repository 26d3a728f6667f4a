/- Plain facts on codes and ends. -/
import Derived.Test.YtkaoeilijdeioaaTq
import Derived.Test.YtkaoeilijdeioaaGz
import Derived.Test.YtkaoeilijdeioaaPz
namespace Go.Proofs.Ytkaoeilijdeioaa
open Go.RowKit
set_option linter.unusedVariables false
set_option maxRecDepth 100000
set_option linter.unusedSimpArgs false

theorem pstr_sbits (s : ByteArray) : pstr (sbits s) = s := by
  have := packB_sbits s.data.toList []
  rw [List.append_nil, packB_nil, List.append_nil] at this
  unfold pstr sbits
  rw [this]
theorem seg_all {S : List Bool} {a b : Nat} (h : a + b = S.length) : seg S 0 a ++ seg S a b = S := by
  have := seg_add S 0 a b
  rw [Nat.zero_add] at this
  rw [← this, h]
  simp [seg]
theorem natB_zero_rep {l : List Bool} (h : natB l = 0) : l = List.replicate l.length false := by
  have := bitsN_natB l
  rw [h, bitsN_zero] at this
  exact this.symm
theorem bt_list {s : ByteArray} {j : Nat} (hj : j < 8 * s.size) (h : bt s j = 1) : seg (sbits s) j 1 = [true] := by
  have hl : (seg (sbits s) j 1).length = 1 := seg_length (by rw [sbits_length]; omega)
  unfold bt at h
  match hx : seg (sbits s) j 1, hl with
  | [x], _ =>
    rw [hx] at h
    cases x
    · simp [natB] at h
    · rfl
theorem only_law {s : ByteArray} {K : Nat} (hK : K ≤ 8 * s.size) : enE s K false = 0 ↔ pstr (seg (sbits s) 0 K ++ trB K) = s := by
  constructor
  · intro h
    unfold enE at h
    by_cases c : 8 * s.size ≤ K
    · rw [if_pos c] at h; simp at h
    · rw [if_neg c] at h
      split at h
      · rename_i hx
        obtain ⟨g, _, a0⟩ := hx
        have a0 := a0 rfl
        unfold enG at g
        rw [Bool.and_eq_true, decide_eq_true_iff] at g
        have g2 : natB (seg (sbits s) (K + 1) (8 * s.size - (K + 1))) = 0 := by simpa [zR, zB] using g.2
        have e1 := bt_list (by omega) g.1
        have e2 := natB_zero_rep g2
        rw [seg_length (by rw [sbits_length]; omega)] at e2
        have e3 : trB K = seg (sbits s) K (8 * s.size - K) := by
          rw [trB_eq, show 8 * s.size - K = 1 + (8 * s.size - (K + 1)) by omega, seg_add, e1, e2, show 8 * s.size - (K + 1) = 7 - K % 8 by omega]; rfl
        rw [e3, seg_all (by rw [sbits_length]; omega), pstr_sbits]
      · simp at h
  · intro h
    have e := congrArg sbits h
    have hl : (seg (sbits s) 0 K).length = K := seg_length (by rw [sbits_length]; omega)
    have hlen : (seg (sbits s) 0 K ++ trB K).length = K + (8 - K % 8) := by rw [List.length_append, hl, trB_eq, List.length_cons, List.length_replicate]; omega
    rw [sbits_pstr, hlen, show (8 - (K + (8 - K % 8)) % 8) % 8 = 0 by omega] at e
    simp only [List.replicate_zero, List.append_nil] at e
    have hsz := congrArg List.length e
    rw [hlen, sbits_length] at hsz
    have e4 : trB K = seg (sbits s) K (8 - K % 8) := by
      have h2 := seg_all (S := sbits s) (a := K) (b := 8 - K % 8) (by rw [sbits_length]; omega)
      exact List.append_cancel_left (e.trans h2.symm)
    rw [trB_eq, show 8 - K % 8 = 1 + (7 - K % 8) by omega, seg_add] at e4
    have hs1 : (seg (sbits s) K 1).length = 1 := seg_length (by rw [sbits_length]; omega)
    have e5 := List.append_inj (s₁ := [true]) (s₂ := seg (sbits s) K 1) e4 hs1.symm
    have b1 : bt s K = 1 := by unfold bt; rw [← e5.1]; rfl
    have z1 : zR s (K + 1) = true := by
      unfold zR zB
      rw [show 8 * s.size - (K + 1) = 7 - K % 8 by omega, ← e5.2, ← bitsN_zero, natB_bitsN]
      simp
    unfold enE
    rw [if_neg (by omega), if_pos ⟨by unfold enG; rw [b1, z1]; rfl, by omega, fun _ => by omega⟩]
theorem zs_of_natB {s : ByteArray} {i n : Nat} (hl : i + n ≤ 8 * s.size) (h : natB (seg (sbits s) i n) = 0) : Zs s i n := by
  intro k hk
  have e : n = k + (1 + (n - k - 1)) := by omega
  rw [e, seg_add, seg_add, natB_append, natB_append] at h
  have hp := Nat.one_le_two_pow (n := (seg (sbits s) (i + k + 1) (n - k - 1)).length)
  have h1 : natB (seg (sbits s) (i + k) 1) * 2 ^ (seg (sbits s) (i + k + 1) (n - k - 1)).length = 0 := by omega
  have h2 : natB (seg (sbits s) (i + k) 1) = 0 := by
    rcases Nat.mul_eq_zero.1 h1 with h' | h'
    · exact h'
    · omega
  have h3 : uE s (i + k) 1 = 0 := uE_one.2 (by omega)
  exact ⟨h3, by unfold uV; rw [if_pos h3]; exact h2⟩
theorem ue_back {s : ByteArray} {i v : Nat} (hv : v ≤ 4294967294) (hl : i + (2 * ueN v + 1) ≤ 8 * s.size) (h : natB (seg (sbits s) i (2 * ueN v + 1)) = v + 1) :
    ueE s i = 0 ∧ ueV s i = v ∧ ueI s i = i + (2 * ueN v + 1) ∧ gz s i = ueN v := by
  have hn := ueN_le hv
  obtain ⟨g1, g2⟩ := ueN_bounds v
  generalize ueN v = n at *
  have h' := h
  rw [show 2 * n + 1 = n + (1 + n) by omega, seg_add, seg_add, natB_append, natB_append, List.length_append] at h
  have l1 : (seg (sbits s) (i + n + 1) n).length = n := seg_length (by rw [sbits_length]; omega)
  have l2 : (seg (sbits s) (i + n) 1).length = 1 := seg_length (by rw [sbits_length]; omega)
  have hz := natB_lt (seg (sbits s) (i + n + 1) n)
  have hy := seg_one s (i + n)
  rw [l1] at h hz
  rw [l2, show 1 + n = n + 1 by omega, Nat.pow_succ] at h
  have hp := Nat.one_le_two_pow (n := n)
  rw [Nat.pow_succ] at g2
  generalize hX : natB (seg (sbits s) i n) = X at *
  generalize hY : natB (seg (sbits s) (i + n) 1) = Y at *
  generalize natB (seg (sbits s) (i + n + 1) n) = Z at *
  generalize 2 ^ n = p at *
  have hX0 : X = 0 := by
    rcases Nat.eq_zero_or_pos X with c | c
    · exact c
    · have : p * 2 * 1 ≤ p * 2 * X := Nat.mul_le_mul_left _ c
      rw [Nat.mul_comm X] at h; omega
  subst hX0
  have hY1 : Y = 1 := by
    have hy2 : Y = 0 ∨ Y = 1 := by omega
    rcases hy2 with c | c
    · subst c; omega
    · exact c
  have hzs := zs_of_natB (by omega) hX
  have h0 : uE s (i + n) 1 = 0 := uE_one.2 (by omega)
  have hg : gz s i = n := gz_stop hzs (by omega) (fun c => by
    have := c.2
    unfold uV at this; rw [if_pos h0] at this
    have e : natB (seg (sbits s) (i + n) 1) = 0 := this
    omega)
  have he : ueE s i = 0 := by unfold ueE; rw [hg, if_neg (by omega), uE_nat (by omega), if_neg (by omega)]
  refine ⟨he, ?_, ?_, hg⟩
  · unfold ueV; rw [if_pos he, hg, h']; omega
  · unfold ueI; rw [if_pos he, hg]
theorem ueB_nat (v : Nat) : natB (ueB v) = v + 1 := natB_bitsN_lt (ueB_lt v)
theorem ue_back' {s : ByteArray} {i v : Nat} (hv : v ≤ 4294967294) (hl : i + (ueB v).length ≤ 8 * s.size) (h : seg (sbits s) i (ueB v).length = ueB v) :
    ueE s i = 0 ∧ ueV s i = v ∧ ueI s i = i + (ueB v).length := by
  rw [ueB_length] at hl h ⊢
  have := ue_back hv hl (by rw [h, ueB_nat])
  exact ⟨this.1, this.2.1, this.2.2.1⟩
theorem se_back {s : ByteArray} {i : Nat} {v : Int} (h : ueV s i = seN v) : seV s i = v := by
  unfold seV
  rw [h]
  unfold seN
  split <;> split <;> omega
theorem ue_bits {s : ByteArray} {i : Nat} (h : ueE s i = 0) : ueB (ueV s i) = seg (sbits s) i (2 * gz s i + 1) ∧ ueI s i = i + (2 * gz s i + 1) ∧ i + (2 * gz s i + 1) ≤ 8 * s.size := by
  have h0 : lnE s i = 0 := by
    by_cases hc : lnE s i = 0
    · exact hc
    · exact absurd ((ueE_not hc).1.symm.trans h) hc
  obtain ⟨h32, h1, _⟩ := lnE_zero_gz h0
  have hl : i + (2 * gz s i + 1) ≤ 8 * s.size := by
    have h' := h
    unfold ueE at h'
    rw [if_neg (by omega), uE_nat (by omega)] at h'
    by_cases c3 : 8 * s.size - i < 2 * gz s i + 1
    · rw [if_pos c3] at h'; simp at h'
    · rw [uE_one] at h1; omega
  have hs := seg_head h0 (gz s i) (Nat.le_refl _) (by omega)
  have hb := natB_lt (seg (sbits s) (i + gz s i + 1) (gz s i))
  rw [seg_length (by rw [sbits_length]; omega)] at hb
  rw [show gz s i + 1 + gz s i = 2 * gz s i + 1 by omega] at hs
  have hv : ueV s i + 1 = natB (seg (sbits s) i (2 * gz s i + 1)) := by
    unfold ueV; rw [if_pos h, hs]; have := Nat.one_le_two_pow (n := gz s i); omega
  have hN : ueN (ueV s i) = gz s i := ueN_of (by rw [hv, hs]; omega) (by rw [hv, hs, Nat.pow_succ]; omega)
  refine ⟨?_, by unfold ueI; rw [if_pos h], hl⟩
  unfold ueB
  rw [hN, hv]
  have := bitsN_natB (seg (sbits s) i (2 * gz s i + 1))
  rwa [seg_length (by rw [sbits_length]; omega)] at this
theorem seg_uV {s : ByteArray} {i n : Nat} (hn : n ≤ 64) (h : uE s i (n : Int) = 0) : seg (sbits s) i n = bitsN n (uV s i (n : Int)) ∧ i + n ≤ 8 * s.size ∨ n = 0 := by
  by_cases h0 : n = 0
  · exact Or.inr h0
  left
  rw [uE_nat hn] at h
  have hl : i + n ≤ 8 * s.size := by split at h <;> omega
  refine ⟨?_, hl⟩
  have e : uE s i (n : Int) = 0 := by rw [uE_nat hn, if_neg (by omega)]
  unfold uV
  rw [if_pos e]
  have := bitsN_natB (seg (sbits s) i n)
  rw [seg_length (by rw [sbits_length]; exact hl)] at this
  exact this.symm
theorem seg_uV' {s : ByteArray} {i n : Nat} (hn : n ≤ 64) (h : uE s i (n : Int) = 0) : seg (sbits s) i n = bitsN n (uV s i (n : Int)) := by
  rcases seg_uV hn h with h | rfl
  · exact h.1
  · simp [bitsN]
theorem sbits_app' (a b : ByteArray) : sbits (a ++ b) = sbits a ++ sbits b := by
  unfold sbits
  rw [← sbitsL_append]
  congr 1
theorem app_size' (a b : ByteArray) : (a ++ b).size = a.size + b.size := by simp
end Go.Proofs.Ytkaoeilijdeioaa
