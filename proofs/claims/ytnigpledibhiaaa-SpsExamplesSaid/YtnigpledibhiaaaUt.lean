/- Payloads as strings: their first bytes, their beginnings. -/
import Derived.Test.YtnigpledibhiaaaUs
import Derived.Lib.Strings
namespace Go.Proofs.Ytnigpledibhiaaa
open Go.RowKit
set_option linter.unusedVariables false
set_option maxRecDepth 100000
set_option linter.unusedSimpArgs false

theorem bytes_beq (a b : ByteArray) : (a.toList == b.toList) = decide (a = b) := by
  rw [Bool.eq_iff_iff, beq_iff_eq, decide_eq_true_iff, Lib.toList_data, Lib.toList_data]
  constructor
  · intro h
    cases a; cases b
    simp only [Array.toList_inj] at h
    rw [h]
  · intro h; rw [h]
theorem sbits_cut (T : ByteArray) (k : Nat) : sbits T = sbits (T.extract 0 k) ++ sbits (T.extract k T.size) := by
  unfold sbits
  rw [← sbitsL_append]
  congr 1
  have h1 : (T.extract 0 k).data.toList = T.data.toList.take k := by simp [ByteArray.data_extract]
  have hl : T.data.toList.length = T.size := by rw [Array.length_toList]; rfl
  have h2 : (T.extract k T.size).data.toList = T.data.toList.drop k := by
    rw [ByteArray.data_extract, Array.toList_extract]
    show (T.data.toList.drop k).take (T.size - k) = _
    exact List.take_of_length_le (by rw [List.length_drop, hl]; omega)
  rw [h1, h2, List.take_append_drop]
theorem extract_all (T : ByteArray) : T.extract 0 T.size = T := by
  apply ByteArray.ext
  rw [ByteArray.data_extract]
  exact Array.extract_size

theorem sPay_ext {x y : SpsD} (hx : okS x = true) (hxu : okU x) (hy : okS y = true) (hyu : okU y) {k : Nat} (hk : k = min (sPay x).size (sPay y).size) (h : (sPay x).extract 0 k = (sPay y).extract 0 k) : x = y := by
  by_cases c : (sPay x).size ≤ (sPay y).size
  · have e : k = (sPay x).size := by omega
    rw [e, extract_all] at h
    refine sPay_pre hx hxu hy hyu (Z := sbits ((sPay y).extract (sPay x).size (sPay y).size)) ?_
    conv => rhs; rw [h]
    have := sbits_cut (sPay y) (sPay x).size
    rw [this, ← h]
  · have e : k = (sPay y).size := by omega
    rw [e, extract_all] at h
    refine (sPay_pre hy hyu hx hxu (Z := sbits ((sPay x).extract (sPay y).size (sPay x).size)) ?_).symm
    have := sbits_cut (sPay x) (sPay y).size
    rw [this, h]

theorem sPay_heads {x : SpsD} (h : okS x = true) (hux : okU x) : ∃ R : List UInt8, (sPay x).data.toList = UInt8.ofNat x.pr.toNat :: UInt8.ofNat x.fl.toNat :: UInt8.ofNat x.le.toNat :: R := by
  obtain ⟨p, f, l, i0, a, b, r, u, t, rfl, hp, hf, hl, hi, ha, hb, hr0, hu, ht, hw, hB⟩ := okS_nums h hux
  rw [sPay_ok h, hB]
  unfold tlB sBits pstr
  simp only [List.append_assoc, Int.toNat_natCast]
  have e : ∀ k : Nat, k < 256 → bitsN 8 k = bitsN 8 (UInt8.ofNat k).toNat := fun k hk => by rw [UInt8.toNat_ofNat', Nat.mod_eq_of_lt (by omega)]
  rw [e p hp, e f hf, e l hl, packB_cons, packB_cons, packB_cons]
  exact ⟨_, rfl⟩
theorem sPay_byte {S : ByteArray} {c : UInt8} {k : Nat} (h : S.data.toList[k]? = some c) (hk : k < S.size) : S[k]'hk = c := by
  have h2 : S.data.toList.length = S.size := by rw [Array.length_toList]; rfl
  rw [List.getElem?_eq_getElem (by omega)] at h
  injection h
theorem sPay_three {x : SpsD} (h : okS x = true) (hux : okU x) : (∀ h0, ((((sPay x)[0]'h0).toNat : Nat) : Int) = x.pr) ∧ (∀ h0, ((((sPay x)[1]'h0).toNat : Nat) : Int) = x.fl) ∧ (∀ h0, ((((sPay x)[2]'h0).toNat : Nat) : Int) = x.le) := by
  obtain ⟨R, hR⟩ := sPay_heads h hux
  obtain ⟨u1, u2, u3, u4, u5, u6⟩ := hux
  refine ⟨fun h0 => ?_, fun h0 => ?_, fun h0 => ?_⟩
  · rw [sPay_byte (c := UInt8.ofNat x.pr.toNat) (by rw [hR]; rfl) h0, UInt8.toNat_ofNat', Nat.mod_eq_of_lt (by omega)]; omega
  · rw [sPay_byte (c := UInt8.ofNat x.fl.toNat) (by rw [hR]; rfl) h0, UInt8.toNat_ofNat', Nat.mod_eq_of_lt (by omega)]; omega
  · rw [sPay_byte (c := UInt8.ofNat x.le.toNat) (by rw [hR]; rfl) h0, UInt8.toNat_ofNat', Nat.mod_eq_of_lt (by omega)]; omega
end Go.Proofs.Ytnigpledibhiaaa
