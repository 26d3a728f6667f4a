/- Plain facts on bits, bytes and numbers: no program in sight. -/
import Derived.Laws.ShiftsVar
namespace Go.Proofs.YtchoiimmcgkimaaDoor

/-- The last n bits of v, the highest one first. -/
def bitsN : Nat → Nat → List Bool
  | 0, _ => []
  | n + 1, v => bitsN n (v / 2) ++ [decide (v % 2 = 1)]

/-- The number of a list of bits. -/
def natB : List Bool → Nat
  | [] => 0
  | b :: l => b.toNat * 2 ^ l.length + natB l

def sbitsL (l : List UInt8) : List Bool := l.flatMap fun c => bitsN 8 c.toNat
def sbits (s : ByteArray) : List Bool := sbitsL s.data.toList
/-- n bits from place i on. -/
def seg (B : List Bool) (i n : Nat) : List Bool := (B.drop i).take n

@[simp] theorem bitsN_length (n v : Nat) : (bitsN n v).length = n := by
  induction n generalizing v with
  | zero => rfl
  | succ n ih => simp [bitsN, ih]

theorem natB_append (a b : List Bool) : natB (a ++ b) = natB a * 2 ^ b.length + natB b := by
  induction a with
  | nil => simp [natB]
  | cons x a ih => simp only [List.cons_append, natB, List.length_append, ih, Nat.pow_add, Nat.add_mul, Nat.mul_assoc]; omega

theorem natB_lt (l : List Bool) : natB l < 2 ^ l.length := by
  induction l with
  | nil => simp [natB]
  | cons b l ih =>
    have : b.toNat ≤ 1 := by cases b <;> simp
    have h2 : b.toNat * 2 ^ l.length ≤ 1 * 2 ^ l.length := Nat.mul_le_mul_right _ this
    simp only [natB, List.length_cons, Nat.pow_succ]; omega

theorem natB_one (b : Bool) : natB [b] = b.toNat := by simp [natB]

theorem toNat_decide (v : Nat) : (decide (v % 2 = 1)).toNat = v % 2 := by
  by_cases h : v % 2 = 1
  · simp [h]
  · have : v % 2 = 0 := by omega
    simp [this]

theorem natB_bitsN (n v : Nat) : natB (bitsN n v) = v % 2 ^ n := by
  induction n generalizing v with
  | zero => simp [bitsN, natB, Nat.mod_one]
  | succ n ih =>
    rw [bitsN, natB_append, ih, natB_one, toNat_decide, Nat.pow_succ, Nat.mul_comm (2 ^ n) 2, Nat.mod_mul]
    simp; omega

theorem natB_bitsN_lt {n v : Nat} (h : v < 2 ^ n) : natB (bitsN n v) = v := by rw [natB_bitsN, Nat.mod_eq_of_lt h]

theorem bitsN_natB (l : List Bool) : bitsN l.length (natB l) = l := by
  suffices h : ∀ n (l : List Bool), l.length = n → bitsN n (natB l) = l from h _ l rfl
  intro n
  induction n with
  | zero => intro l h; simp at h; subst h; rfl
  | succ n ih =>
    intro l h
    have hne : l ≠ [] := by intro e; simp [e] at h
    obtain ⟨a, b, rfl⟩ : ∃ a b, l = a ++ [b] := ⟨l.dropLast, l.getLast hne, (List.dropLast_concat_getLast hne).symm⟩
    have ha : a.length = n := by simp at h; exact h
    have hb : b.toNat ≤ 1 := by cases b <;> simp
    rw [bitsN, natB_append, natB_one]
    have e1 : (natB a * 2 ^ [b].length + b.toNat) / 2 = natB a := by simp; omega
    have e2 : (natB a * 2 ^ [b].length + b.toNat) % 2 = b.toNat := by simp; omega
    rw [e1, e2, ih a ha]
    cases b <;> simp

theorem bitsN_mod (n v : Nat) : bitsN n (v % 2 ^ n) = bitsN n v := by
  have h := bitsN_natB (bitsN n v)
  rwa [bitsN_length, natB_bitsN] at h

theorem bitsN_append (a b v : Nat) : bitsN (a + b) v = bitsN a (v / 2 ^ b) ++ bitsN b v := by
  induction b generalizing v with
  | zero => simp [bitsN]
  | succ b ih => rw [← Nat.add_assoc, bitsN, ih, bitsN, List.append_assoc, Nat.div_div_eq_div_mul, ← Nat.pow_succ']

theorem bitsN_inj {n v w : Nat} (hv : v < 2 ^ n) (hw : w < 2 ^ n) (h : bitsN n v = bitsN n w) : v = w := by
  rw [← natB_bitsN_lt hv, h, natB_bitsN_lt hw]

theorem natB_inj {a b : List Bool} (hl : a.length = b.length) (h : natB a = natB b) : a = b := by
  rw [← bitsN_natB a, ← bitsN_natB b, hl, h]

@[simp] theorem sbitsL_nil : sbitsL [] = [] := rfl
@[simp] theorem sbitsL_append (a b : List UInt8) : sbitsL (a ++ b) = sbitsL a ++ sbitsL b := by unfold sbitsL; rw [List.flatMap_append]
theorem sbitsL_cons (c : UInt8) (l : List UInt8) : sbitsL (c :: l) = bitsN 8 c.toNat ++ sbitsL l := by unfold sbitsL; rw [List.flatMap_cons]
@[simp] theorem sbitsL_length (l : List UInt8) : (sbitsL l).length = 8 * l.length := by
  induction l with
  | nil => rfl
  | cons c l ih => rw [sbitsL_cons, List.length_append, bitsN_length, ih, List.length_cons]; omega
@[simp] theorem sbits_length (s : ByteArray) : (sbits s).length = 8 * s.size := by
  show (sbitsL s.data.toList).length = 8 * s.data.size
  rw [sbitsL_length, Array.length_toList]

theorem sbitsL_inj : ∀ {a b : List UInt8}, sbitsL a = sbitsL b → a = b
  | [], [], _ => rfl
  | [], c :: l, h => by have := congrArg List.length h; simp only [sbitsL_length, List.length_cons, List.length_nil] at this; omega
  | c :: l, [], h => by have := congrArg List.length h; simp only [sbitsL_length, List.length_cons, List.length_nil] at this; omega
  | c :: l, d :: m, h => by
    rw [sbitsL_cons, sbitsL_cons] at h
    have h1 := List.append_inj h (by rw [bitsN_length, bitsN_length])
    have e : c.toNat = d.toNat := bitsN_inj (n := 8) c.toNat_lt d.toNat_lt h1.1
    rw [sbitsL_inj h1.2, UInt8.toNat_inj.1 e]

@[simp] theorem seg_zero (B : List Bool) (i : Nat) : seg B i 0 = [] := by simp [seg]
theorem seg_length {B : List Bool} {i n : Nat} (h : i + n ≤ B.length) : (seg B i n).length = n := by simp [seg]; omega
theorem seg_add (B : List Bool) (i a b : Nat) : seg B i (a + b) = seg B i a ++ seg B (i + a) b := by
  simp only [seg, ← List.drop_drop]
  rw [List.take_add]

theorem seg_append_left {A B : List Bool} {i n : Nat} (h : i + n ≤ A.length) : seg (A ++ B) i n = seg A i n := by
  simp only [seg]
  rw [List.drop_append_of_le_length (by omega), List.take_append_of_le_length (by simp; omega)]
theorem seg_append_right (A B : List Bool) (i n : Nat) : seg (A ++ B) (A.length + i) n = seg B i n := by
  simp only [seg]
  rw [List.drop_append, List.drop_eq_nil_of_le (by omega), List.nil_append, Nat.add_sub_cancel_left]

theorem drop_sbitsL (l : List UInt8) (q : Nat) : (sbitsL l).drop (8 * q) = sbitsL (l.drop q) := by
  induction q generalizing l with
  | zero => simp
  | succ q ih =>
    cases l with
    | nil => simp
    | cons c l =>
      rw [sbitsL_cons, List.drop_succ_cons, ← ih, List.drop_append, List.drop_eq_nil_of_le (by simp; omega), bitsN_length, show 8 * (q + 1) - 8 = 8 * q by omega, List.nil_append]

/-- Up to eight bits inside one byte. -/
theorem natB_seg8 (c p k : Nat) (h : p + k ≤ 8) : natB (seg (bitsN 8 c) p k) = c % 2 ^ (8 - p) / 2 ^ (8 - p - k) := by
  obtain ⟨r, rfl⟩ : ∃ r, r = 8 - p - k := ⟨_, rfl⟩
  have e : bitsN 8 c = bitsN p (c / 2 ^ (8 - p)) ++ (bitsN k (c / 2 ^ (8 - p - k)) ++ bitsN (8 - p - k) c) := by
    rw [← bitsN_append, show k + (8 - p - k) = 8 - p by omega, ← bitsN_append, show p + (8 - p) = 8 by omega]
  have hs := seg_append_right (bitsN p (c / 2 ^ (8 - p))) (bitsN k (c / 2 ^ (8 - p - k)) ++ bitsN (8 - p - k) c) 0 k
  rw [bitsN_length, Nat.add_zero] at hs
  rw [e, hs]
  have : seg (bitsN k (c / 2 ^ (8 - p - k)) ++ bitsN (8 - p - k) c) 0 k = bitsN k (c / 2 ^ (8 - p - k)) := by
    simp only [seg, List.drop_zero]
    rw [List.take_append_of_le_length (by rw [bitsN_length]; omega), List.take_of_length_le (by rw [bitsN_length]; omega)]
  rw [this, natB_bitsN]
  rw [show (2:Nat) ^ (8 - p) = 2 ^ (8 - p - k) * 2 ^ k by rw [← Nat.pow_add]; congr 1; omega, Nat.mod_mul_right_div_self]

theorem seg_sbits_byte (s : ByteArray) (q : Nat) (h : q < s.size) (p k : Nat) (hk : p + k ≤ 8) : seg (sbits s) (8 * q + p) k = seg (bitsN 8 (s[q]'h).toNat) p k := by
  have hl : q < s.data.toList.length := by simpa using h
  simp only [seg, sbits]
  rw [← List.drop_drop, drop_sbitsL, List.drop_eq_getElem_cons hl, sbitsL_cons]
  rw [List.drop_append_of_le_length (by simp; omega), List.take_append_of_le_length (by simp; omega)]
  rfl

theorem natB_seg_byte (s : ByteArray) (i k : Nat) (h : i / 8 < s.size) (hk : i % 8 + k ≤ 8) :
    natB (seg (sbits s) i k) = (s[i / 8]'h).toNat % 2 ^ (8 - i % 8) / 2 ^ (8 - i % 8 - k) := by
  have e : i = 8 * (i / 8) + i % 8 := by omega
  conv => lhs; rw [e]
  rw [seg_sbits_byte s (i / 8) h (i % 8) k hk, natB_seg8 _ _ _ hk]


/-! ### bits packed into bytes, and written as characters -/
def packF : Nat → List Bool → List UInt8
  | 0, _ => []
  | _ + 1, [] => []
  | n + 1, b :: B => UInt8.ofNat (natB ((b :: B).take 8) * 2 ^ (8 - ((b :: B).take 8).length)) :: packF n ((b :: B).drop 8)
def packB (B : List Bool) : List UInt8 := packF B.length B

theorem packF_eq : ∀ (n : Nat) (B : List Bool), B.length ≤ n → packF n B = packF B.length B := by
  intro n
  induction n using Nat.strongRecOn with
  | _ n ih =>
    intro B h
    cases B with
    | nil => cases n <;> rfl
    | cons b B =>
      cases n with
      | zero => simp at h
      | succ n =>
        simp only [List.length_cons] at h
        simp only [List.length_cons, packF]
        have hd : ((b :: B).drop 8).length ≤ B.length := by simp
        rw [ih n (by omega) _ (Nat.le_trans hd (by omega)), ih B.length (by omega) _ hd]

theorem packB_nil : packB [] = [] := rfl
theorem packB_eq (B : List Bool) (h : B ≠ []) : packB B = UInt8.ofNat (natB (B.take 8) * 2 ^ (8 - (B.take 8).length)) :: packB (B.drop 8) := by
  cases B with
  | nil => exact absurd rfl h
  | cons b B =>
    show packF (B.length + 1) (b :: B) = _
    simp only [packF]
    rw [packF_eq _ _ (by simp)]
    rfl
theorem packB_cons (c : UInt8) (B : List Bool) : packB (bitsN 8 c.toNat ++ B) = c :: packB B := by
  have h8 : (bitsN 8 c.toNat).length = 8 := bitsN_length _ _
  have hne : bitsN 8 c.toNat ++ B ≠ [] := by
    intro e
    have := congrArg List.length e
    rw [List.length_append, h8] at this
    simp at this
  rw [packB_eq _ hne]
  have h1 : (bitsN 8 c.toNat ++ B).take 8 = bitsN 8 c.toNat := by
    have := List.take_left (l₁ := bitsN 8 c.toNat) (l₂ := B)
    rwa [h8] at this
  have h2 : (bitsN 8 c.toNat ++ B).drop 8 = B := by
    have := List.drop_left (l₁ := bitsN 8 c.toNat) (l₂ := B)
    rwa [h8] at this
  rw [h1, h2, h8, natB_bitsN_lt c.toNat_lt]
  simp
theorem packB_part {ct pt : Nat} (h0 : 0 < ct) (h8 : ct < 8) (hp : pt < 2 ^ ct) : packB (bitsN ct pt) = [UInt8.ofNat (pt * 2 ^ (8 - ct))] := by
  have hl : (bitsN ct pt).length = ct := bitsN_length _ _
  have hne : bitsN ct pt ≠ [] := by intro e; have := congrArg List.length e; rw [hl] at this; simp at this; omega
  rw [packB_eq _ hne]
  have h1 : (bitsN ct pt).take 8 = bitsN ct pt := List.take_of_length_le (by omega)
  have h2 : (bitsN ct pt).drop 8 = [] := List.drop_eq_nil_of_le (by omega)
  rw [h1, h2, hl, natB_bitsN_lt hp, packB_nil]
theorem packB_sbits (ws : List UInt8) (B : List Bool) : packB (sbitsL ws ++ B) = ws ++ packB B := by
  induction ws with
  | nil => rfl
  | cons c ws ih => rw [sbitsL_cons, List.append_assoc, packB_cons, ih]; rfl
theorem packB_of {B : List Bool} {ws : List UInt8} {ct pt : Nat} (h : B = sbitsL ws ++ bitsN ct pt) (h8 : ct < 8) (hp : pt < 2 ^ ct) :
    packB B = if ct = 0 then ws else ws ++ [UInt8.ofNat (pt * 2 ^ (8 - ct))] := by
  rw [h, packB_sbits]
  by_cases h0 : ct = 0
  · subst h0; rw [if_pos rfl]; simp [bitsN, packB_nil]
  · rw [if_neg h0, packB_part (by omega) h8 hp]

/-- Every list of bits is whole bytes and fewer than eight bits more. -/
theorem bits_split (B : List Bool) : ∃ ws ct pt, B = sbitsL ws ++ bitsN ct pt ∧ ct < 8 ∧ pt < 2 ^ ct := by
  suffices h : ∀ n (B : List Bool), B.length ≤ n → ∃ ws ct pt, B = sbitsL ws ++ bitsN ct pt ∧ ct < 8 ∧ pt < 2 ^ ct from h _ B (Nat.le_refl _)
  intro n
  induction n with
  | zero => intro B h; exact ⟨[], 0, 0, by have e : B = [] := List.length_eq_zero_iff.1 (by omega); rw [e]; rfl, by omega, by simp⟩
  | succ n ih =>
    intro B h
    by_cases h8 : B.length < 8
    · exact ⟨[], B.length, natB B, by rw [bitsN_natB]; rfl, h8, natB_lt B⟩
    · obtain ⟨ws, ct, pt, e, h1, h2⟩ := ih (B.drop 8) (by simp; omega)
      have ht : (B.take 8).length = 8 := by simp; omega
      have hb := natB_lt (B.take 8)
      rw [ht] at hb
      refine ⟨UInt8.ofNat (natB (B.take 8)) :: ws, ct, pt, ?_, h1, h2⟩
      have e2 := bitsN_natB (B.take 8)
      rw [ht] at e2
      rw [sbitsL_cons, UInt8.toNat_ofNat', Nat.mod_eq_of_lt hb, e2, List.append_assoc, ← e, List.take_append_drop]

theorem bitsN_zero (n : Nat) : bitsN n 0 = List.replicate n false := by
  induction n with
  | zero => rfl
  | succ n ih => rw [bitsN, Nat.zero_div, ih, List.replicate_succ']; rfl

/-- The bits of the bytes: those, and zeros. -/
theorem sbits_packB (B : List Bool) : sbitsL (packB B) = B ++ List.replicate ((8 - B.length % 8) % 8) false := by
  obtain ⟨ws, ct, pt, h, h8, hp⟩ := bits_split B
  rw [packB_of h h8 hp]
  have hl := congrArg List.length h
  rw [List.length_append, sbitsL_length, bitsN_length] at hl
  by_cases h0 : ct = 0
  · subst h0
    rw [if_pos rfl, show (8 - B.length % 8) % 8 = 0 by omega, h]
    simp [bitsN]
  · rw [if_neg h0, sbitsL_append, show (8 - B.length % 8) % 8 = 8 - ct by omega, h, List.append_assoc]
    congr 1
    rw [sbitsL_cons, sbitsL_nil, List.append_nil]
    have hlt : pt * 2 ^ (8 - ct) < 256 := by
      have := Nat.mul_lt_mul_of_pos_right hp (Nat.two_pow_pos (8 - ct))
      rwa [← Nat.pow_add, show ct + (8 - ct) = 8 by omega] at this
    rw [UInt8.toNat_ofNat', Nat.mod_eq_of_lt (by omega)]
    have e := bitsN_append ct (8 - ct) (pt * 2 ^ (8 - ct))
    rw [show ct + (8 - ct) = 8 by omega, Nat.mul_div_cancel _ (Nat.two_pow_pos _)] at e
    rw [e, ← bitsN_mod (8 - ct), Nat.mul_mod_left, bitsN_zero]

theorem packB_length (B : List Bool) : (packB B).length = (B.length + 7) / 8 := by
  have h := congrArg List.length (sbits_packB B)
  rw [sbitsL_length, List.length_append, List.length_replicate] at h
  omega

def chB (b : Bool) : UInt8 := if b then 49 else 48
/-- The bits as characters. -/
def strB (B : List Bool) : ByteArray := ⟨(B.map chB).toArray⟩
def pstr (B : List Bool) : ByteArray := ⟨(packB B).toArray⟩
theorem sbits_pstr (B : List Bool) : sbits (pstr B) = B ++ List.replicate ((8 - B.length % 8) % 8) false := sbits_packB B
@[simp] theorem pstr_size (B : List Bool) : (pstr B).size = (B.length + 7) / 8 := by
  show (packB B).toArray.size = _
  rw [List.size_toArray, packB_length]
@[simp] theorem strB_size (B : List Bool) : (strB B).size = B.length := by
  show (B.map chB).toArray.size = _
  simp

end Go.Proofs.YtchoiimmcgkimaaDoor
