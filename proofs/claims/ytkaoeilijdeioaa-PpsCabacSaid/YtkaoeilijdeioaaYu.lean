/- Payloads of picture parameter sets: none is the beginning of another. -/
import Derived.Test.YtkaoeilijdeioaaYs
import Derived.Lib.Strings
namespace Go.Proofs.Ytkaoeilijdeioaa
open Go.RowKit
set_option linter.unusedVariables false
set_option maxRecDepth 100000
set_option linter.unusedSimpArgs false

theorem bytes_beq (a b : ByteArray) : (a.toList == b.toList) = decide (a = b) := by
  rw [Bool.eq_iff_iff, beq_iff_eq, decide_eq_true_iff, Lib.toList_data, Lib.toList_data]
  constructor
  · intro h
    cases a; cases b
    simp only [Array.toList_inj] at h
    rw [h]
  · intro h; rw [h]
theorem sbits_cut (T : ByteArray) (k : Nat) : sbits T = sbits (T.extract 0 k) ++ sbits (T.extract k T.size) := by
  unfold sbits
  rw [← sbitsL_append]
  congr 1
  have h1 : (T.extract 0 k).data.toList = T.data.toList.take k := by simp [ByteArray.data_extract]
  have hl : T.data.toList.length = T.size := by rw [Array.length_toList]; rfl
  have h2 : (T.extract k T.size).data.toList = T.data.toList.drop k := by
    rw [ByteArray.data_extract, Array.toList_extract]
    show (T.data.toList.drop k).take (T.size - k) = _
    exact List.take_of_length_le (by rw [List.length_drop, hl]; omega)
  rw [h1, h2, List.take_append_drop]
theorem extract_all (T : ByteArray) : T.extract 0 T.size = T := by
  apply ByteArray.ext
  rw [ByteArray.data_extract]
  exact Array.extract_size

theorem pBits_pre {i0 sp c a b : Nat} {q z t : Int} {d n0 : Nat} {i0' sp' c' a' b' : Nat} {q' z' t' : Int} {d' n0' : Nat} {R T : List Bool} (hi : i0 ≤ 31) (hsp : sp ≤ 31) (hc : c < 2) (ha : a ≤ 31) (hb : b ≤ 31) (hq1 : -26 ≤ q) (hq2 : q ≤ 25) (hz1 : -26 ≤ z) (hz2 : z ≤ 25) (ht1 : -12 ≤ t) (ht2 : t ≤ 12) (hd : d < 2) (hn : n0 < 2) (hi' : i0' ≤ 31) (hsp' : sp' ≤ 31) (hc' : c' < 2) (ha' : a' ≤ 31) (hb' : b' ≤ 31) (hq1' : -26 ≤ q') (hq2' : q' ≤ 25) (hz1' : -26 ≤ z') (hz2' : z' ≤ 25) (ht1' : -12 ≤ t') (ht2' : t' ≤ 12) (hd' : d' < 2) (hn' : n0' < 2)
    (h : pBits i0 sp c a b q z t d n0 ++ R = pBits i0' sp' c' a' b' q' z' t' d' n0' ++ T) : i0 = i0' ∧ sp = sp' ∧ c = c' ∧ a = a' ∧ b = b' ∧ q = q' ∧ z = z' ∧ t = t' ∧ d = d' ∧ n0 = n0' := by
  unfold pBits at h
  simp only [List.append_assoc] at h
  obtain ⟨x1, h⟩ := ueB_pre (by omega) (by omega) h
  obtain ⟨x2, h⟩ := ueB_pre (by omega) (by omega) h
  obtain ⟨x3, h⟩ := bitsN_pre (by omega) (by omega) h
  obtain ⟨-, h⟩ := bitsN_pre (by omega) (by omega) h
  obtain ⟨-, h⟩ := ueB_pre (by omega) (by omega) h
  obtain ⟨x4, h⟩ := ueB_pre (by omega) (by omega) h
  obtain ⟨x5, h⟩ := ueB_pre (by omega) (by omega) h
  obtain ⟨-, h⟩ := bitsN_pre (by omega) (by omega) h
  obtain ⟨x6, h⟩ := ueB_pre (seN_le1000 (by omega) (by omega)) (seN_le1000 (by omega) (by omega)) h
  obtain ⟨x7, h⟩ := ueB_pre (seN_le1000 (by omega) (by omega)) (seN_le1000 (by omega) (by omega)) h
  obtain ⟨x8, h⟩ := ueB_pre (seN_le1000 (by omega) (by omega)) (seN_le1000 (by omega) (by omega)) h
  obtain ⟨x9, h⟩ := bitsN_pre (by omega) (by omega) h
  obtain ⟨x10, h⟩ := bitsN_pre (by omega) (by omega) h
  exact ⟨x1, x2, x3, x4, x5, seN_inj x6, seN_inj x7, seN_inj x8, x9, x10⟩
theorem pPay_pre {x y : PpsD} (hx : okP x = true) (hy : okP y = true) {Z : List Bool} (h : sbits (pPay y) = sbits (pPay x) ++ Z) : x = y := by
  rw [sbits_ppay hx, sbits_ppay hy] at h
  obtain ⟨i0, sp, c, a, b, q, z, t, d, n0, e1, hi, hsp, hc, ha, hb, hq1, hq2, hz1, hz2, ht1, ht2, hd, hn, hB⟩ := okP_nums hx
  obtain ⟨i0', sp', c', a', b', q', z', t', d', n0', e2, hi', hsp', hc', ha', hb', hq1', hq2', hz1', hz2', ht1', ht2', hd', hn', hB'⟩ := okP_nums hy
  rw [hB, hB', List.append_assoc] at h
  obtain ⟨rfl, rfl, rfl, rfl, rfl, rfl, rfl, rfl, rfl, rfl⟩ := pBits_pre hi' hsp' hc' ha' hb' hq1' hq2' hz1' hz2' ht1' ht2' hd' hn' hi hsp hc ha hb hq1 hq2 hz1 hz2 ht1 ht2 hd hn h
  rw [e1, e2]
theorem pPay_ext {x y : PpsD} (hx : okP x = true) (hy : okP y = true) {k : Nat} (hk : k = min (pPay x).size (pPay y).size) (h : (pPay x).extract 0 k = (pPay y).extract 0 k) : x = y := by
  by_cases c : (pPay x).size ≤ (pPay y).size
  · have e : k = (pPay x).size := by omega
    rw [e, extract_all] at h
    refine pPay_pre hx hy (Z := sbits ((pPay y).extract (pPay x).size (pPay y).size)) ?_
    have := sbits_cut (pPay y) (pPay x).size
    rw [this, ← h]
  · have e : k = (pPay y).size := by omega
    rw [e, extract_all] at h
    refine (pPay_pre hy hx (Z := sbits ((pPay x).extract (pPay y).size (pPay x).size)) ?_).symm
    have := sbits_cut (pPay x) (pPay y).size
    rw [this, h]
end Go.Proofs.Ytkaoeilijdeioaa
