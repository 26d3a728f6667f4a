/- The reference's writer: Bytes. -/
import Derived.Test.YtakpafmhdgnlmaaQw
namespace Go.Proofs.Ytakpafmhdgnlmaa
open Go.RowKit
set_option linter.unusedVariables false
set_option maxRecDepth 100000
set_option linter.unusedSimpArgs false

/-- The bytes in the midst of the loop, a new one laid where it begins. -/
def pkRow (B : List Bool) (i : Nat) : List UInt8 := if i % 8 = 0 then packB (B.take i) ++ [0] else packB (B.take i)

theorem pk_step (B : List Bool) (i : Nat) (h : i < B.length) : ∃ c : Nat, (pkRow B i)[i / 8]? = some (UInt8.ofNat c) ∧ (pkRow B i).length = i / 8 + 1 ∧ c % 2 ^ (8 - i % 8) = 0 ∧ c + (B[i]'h).toNat * 2 ^ (7 - i % 8) < 256 ∧
    packB (B.take (i + 1)) = (pkRow B i).set (i / 8) (UInt8.ofNat (c + (B[i]'h).toNat * 2 ^ (7 - i % 8))) := by
  obtain ⟨ws, ct, pt, e, h8, hp⟩ := bits_split (B.take i)
  have hl := congrArg List.length e
  rw [List.length_append, sbitsL_length, bitsN_length, List.length_take, Nat.min_eq_left (by omega)] at hl
  have hct : ct = i % 8 := by omega
  have hws : ws.length = i / 8 := by omega
  obtain ⟨x, hx⟩ : ∃ x, x = (B[i]'h).toNat := ⟨_, rfl⟩
  have hx1 : x ≤ 1 := by rw [hx]; cases B[i]'h <;> simp
  have hbx : B[i]'h = decide (x = 1) := by rw [hx]; cases B[i]'h <;> simp
  have e2 : B.take (i + 1) = sbitsL ws ++ bitsN (ct + 1) (2 * pt + x) := by
    rw [List.take_succ_eq_append_getElem h, hbx]
    have : (2 * pt + x) / 2 = pt := by omega
    have h3 : (2 * pt + x) % 2 = x := by omega
    rw [e, bitsN, this, h3, List.append_assoc]
  have hlt : (2 * pt + x) < 2 ^ (ct + 1) := by rw [Nat.pow_succ]; omega
  have hv : (2 * pt + x) * 2 ^ (7 - ct) = pt * 2 ^ (8 - ct) + x * 2 ^ (7 - ct) := by
    rw [show 8 - ct = (7 - ct) + 1 by omega, Nat.pow_succ, Nat.add_mul, Nat.mul_comm 2 pt, Nat.mul_assoc, Nat.mul_comm 2 (2 ^ (7 - ct))]
  have h256 : (2 * pt + x) * 2 ^ (7 - ct) < 256 := by
    have := Nat.mul_lt_mul_of_pos_right hlt (Nat.two_pow_pos (7 - ct))
    rwa [← Nat.pow_add, show ct + 1 + (7 - ct) = 8 by omega] at this
  have hnew : packB (B.take (i + 1)) = ws ++ [UInt8.ofNat ((2 * pt + x) * 2 ^ (7 - ct))] := by
    by_cases h7 : ct = 7
    · subst h7
      have e3 : B.take (i + 1) = sbitsL (ws ++ [UInt8.ofNat (2 * pt + x)]) ++ [] := by
        have hm : (2 * pt + x) < 256 := by simpa using hlt
        rw [e2, sbitsL_append, sbitsL_cons, sbitsL_nil, UInt8.toNat_ofNat', Nat.mod_eq_of_lt (by omega)]
        simp
      rw [e3, packB_sbits, packB_nil]
      simp
    · rw [packB_of e2 (by omega) hlt, if_neg (by omega), show 8 - (ct + 1) = 7 - ct by omega]
  have hrow : pkRow B i = ws ++ [UInt8.ofNat (pt * 2 ^ (8 - ct))] := by
    unfold pkRow
    rw [packB_of e h8 hp, ← hct]
    by_cases h0 : ct = 0
    · subst h0
      have : pt = 0 := by simpa using hp
      subst this
      rw [if_pos rfl, if_pos rfl]; rfl
    · rw [if_neg h0, if_neg h0]
  refine ⟨pt * 2 ^ (8 - ct), ?_, ?_, ?_, ?_, ?_⟩
  · rw [hrow, ← hws, List.getElem?_append_right (Nat.le_refl _), Nat.sub_self]; rfl
  · rw [hrow]; simp [hws]
  · rw [← hct, Nat.mul_mod_left]
  · rw [← hct, ← hx, ← hv]; exact h256
  · rw [hnew, hrow, ← hct, ← hx, ← hv, ← hws, List.set_append_right _ _ (Nat.le_refl _), Nat.sub_self]; rfl

theorem u8_or_add {a y : Nat} (k : Nat) (ha : a % 2 ^ k = 0) (hy : y < 2 ^ k) (h : a + y < 256) : bits .or .u8 (a : Int) (y : Int) = ((a + y : Nat) : Int) := by
  rw [u8_or_nat _ _ (by omega) (by omega), nat_join k a y ha hy]

theorem row_open {w : World} {base n : Nat} {v : Value} {xs : List Value} (h : w.ownsRow base 5 1 v n xs) (hn : 0 < n) :
    ∃ g cap cur, v = .slice (some ⟨g, 0, none⟩) n cap ∧ base ≤ g ∧ w.heap[g]? = some (.cells cur 5 (0, 0)) ∧ n ≤ cap ∧ cap ≤ maxLen ∧ cur.size = cap ∧ cur.toList.take n = xs := by
  rcases h.2 with ⟨_, h0⟩ | ⟨g, cap, cur, h1, h2, h3, h4, h5, h6, h7⟩
  · omega
  · exact ⟨g, cap, cur, h1, h2, h3, h4, h5, by simpa using h6, by simpa using h7⟩

theorem row_set {cur : Array Value} {P : List UInt8} {n q : Nat} {y : Nat} (h : cur.toList.take n = P.map bv) (hq : q < n) (hy : y < 256) : (cur.setIfInBounds q (.int .u8 (y : Int))).toList.take n = (P.set q (UInt8.ofNat y)).map bv := by
  rw [List.map_set, bv_ofNat hy, ← h, Array.toList_setIfInBounds, List.take_set]

theorem chB_nat (b : Bool) : ((chB b).toNat : Int) = 48 + ((b.toNat : Nat) : Int) := by cases b <;> rfl

theorem uE_ok {s : ByteArray} {i n : Nat} (h : n ≤ 64) (hl : i + n ≤ 8 * s.size) : uE s i (n : Int) = 0 := by
  unfold uE; rw [if_neg (by omega), if_neg (by omega)]
theorem uI_ok {s : ByteArray} {i n : Nat} (h : n ≤ 64) (hl : i + n ≤ 8 * s.size) : uI s i (n : Int) = i + n := by
  unfold uI; rw [if_pos (uE_ok h hl), Int.toNat_natCast]
theorem uV_ok {s : ByteArray} {i n : Nat} (h : n ≤ 64) (hl : i + n ≤ 8 * s.size) : uV s i (n : Int) = natB (seg (sbits s) i n) := by
  unfold uV; rw [if_pos (uE_ok h hl), Int.toNat_natCast]
theorem pE_ok {n v : Nat} (h : n ≤ 64) (hv : v < 2 ^ n) : pE (n : Int) v = 0 := by
  unfold pE; rw [if_neg (by omega), if_neg (fun hc => by have := hc.2; rw [Int.toNat_natCast] at this; omega)]
theorem pB_ok {B : List Bool} {n v : Nat} (h : n ≤ 64) (hv : v < 2 ^ n) : pB B (n : Int) v = B ++ bitsN n v := by
  unfold pB; rw [if_pos (pE_ok h hv), Int.toNat_natCast]

end Go.Proofs.Ytakpafmhdgnlmaa
