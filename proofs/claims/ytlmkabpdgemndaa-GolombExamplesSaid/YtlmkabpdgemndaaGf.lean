/- Chapter 02's law: what its fit, put, get, code and begins do; a call's code. -/
import Derived.Test.YtlmkabpdgemndaaGp
namespace Go.Proofs.Ytlmkabpdgemndaa
open Go.RowKit
set_option linter.unusedVariables false
set_option maxRecDepth 100000
set_option linter.unusedSimpArgs false

def gK (k : Int) : Nat := (k.tmod 9 + 9).toNat % 9
def gM (m : Nat) : Nat := m % 4294967295
def gV (wh : Int) (m : Nat) (k : Int) (v : Nat) : Nat := if wh % 4 = 2 then v % (gM m + 1) else if wh % 4 = 3 then v % (4294967295 * 2 ^ gK k) else v % 4294967295

/-- The code of a valid call. -/
def cB (wh : Int) (m k v : Nat) : List Bool := if wh % 4 = 0 then ueB v else if wh % 4 = 1 then ueB (seN ((v : Int) - 2147483647)) else if wh % 4 = 2 then teB m v else ukB k v
/-- A valid call. -/
structure CallOk (wh : Int) (m k v : Nat) : Prop where
  w0 : 0 ≤ wh
  w1 : wh ≤ 255
  m1 : m ≤ 4294967294
  k1 : k ≤ 8
  v01 : wh % 4 ≤ 1 → v ≤ 4294967294
  v2 : wh % 4 = 2 → v ≤ m
  v3 : wh % 4 = 3 → v / 2 ^ k ≤ 4294967294

theorem gK_le (k : Int) : gK k ≤ 8 := by unfold gK; omega
theorem two_pow8 {k : Nat} (h : k ≤ 8) : 1 ≤ 2 ^ k ∧ 2 ^ k ≤ 256 := by
  have h1 : 2 ^ k ≤ 2 ^ 8 := Nat.pow_le_pow_right (by omega) h
  have h3 : (2 : Nat) ^ 8 = 256 := by decide
  exact ⟨Nat.one_le_two_pow, by omega⟩
theorem fit_ok {wh : Int} (h0 : 0 ≤ wh) (h1 : wh ≤ 255) (m : Nat) (k : Int) (v : Nat) : CallOk wh (gM m) (gK k) (gV wh m k v) := by
  have hm : gM m ≤ 4294967294 := by unfold gM; omega
  have hk := gK_le k
  refine ⟨h0, h1, hm, hk, fun h => ?_, fun h => ?_, fun h => ?_⟩
  · unfold gV; rw [if_neg (by omega), if_neg (by omega)]; omega
  · unfold gV; rw [if_pos h]; have := Nat.mod_lt v (show 0 < gM m + 1 by omega); omega
  · unfold gV; rw [if_neg (by omega), if_pos h]
    obtain ⟨p1, p2⟩ := two_pow8 hk
    have hp : 0 < 4294967295 * 2 ^ gK k := by omega
    have := Nat.mod_lt v hp
    have h2 : v % (4294967295 * 2 ^ gK k) / 2 ^ gK k < 4294967295 := by rw [Nat.div_lt_iff_lt_mul (by omega)]; exact this
    omega
theorem CallOk.lt {wh : Int} {m k v : Nat} (h : CallOk wh m k v) : v < 18446744073709551616 := by
  have h3 : wh % 4 ≤ 1 ∨ wh % 4 = 2 ∨ wh % 4 = 3 := by omega
  rcases h3 with c | c | c
  · have := h.v01 c; omega
  · have := h.v2 c; have := h.m1; omega
  · have g := h.v3 c
    obtain ⟨p1, p2⟩ := two_pow8 h.k1
    have h2 : v < 4294967295 * 2 ^ k := by rw [← Nat.div_lt_iff_lt_mul (by omega)]; omega
    omega
theorem seN_le {v : Int} (h1 : -2147483647 ≤ v) (h2 : v ≤ 2147483647) : seN v ≤ 4294967294 := by unfold seN; split <;> omega
theorem teB_length {m v : Nat} : (teB m v).length ≤ 2 * ueN v + 1 := by
  unfold teB
  split
  · simp
  · split
    · rw [bitsN_length]; omega
    · rw [ueB_length]; omega
theorem CallOk.len {wh : Int} {m k v : Nat} (h : CallOk wh m k v) : (cB wh m k v).length ≤ 71 := by
  unfold cB
  have h4 : wh % 4 = 0 ∨ wh % 4 = 1 ∨ wh % 4 = 2 ∨ wh % 4 = 3 := by omega
  rcases h4 with c | c | c | c
  · rw [if_pos c, ueB_length]; have := ueN_le (h.v01 (by omega)); omega
  · rw [if_neg (by omega), if_pos c, ueB_length]
    have g := h.v01 (by omega)
    have := ueN_le (seN_le (v := (v : Int) - 2147483647) (by omega) (by omega)); omega
  · rw [if_neg (by omega), if_neg (by omega), if_pos c]
    have g := h.v2 c
    have g1 := h.m1
    have := ueN_le (v := v) (by omega)
    have := teB_length (m := m) (v := v); omega
  · rw [if_neg (by omega), if_neg (by omega), if_neg (by omega), ukB, List.length_append, ueB_length, bitsN_length]
    have := ueN_le (h.v3 c)
    have := h.k1; omega

theorem lput_any {W w : World} {L : List AObj} {F : List (Nat × Obj)} (h : Hp W w L F) (j : Nat) {b : Nat} {B : List Bool} (hk : L[j]? = some (aWr b B)) (hB : B.length ≤ 2 ^ 39) {wh : Int} {m k v : Nat} (ok : CallOk wh m k v) :
    Calls Try.prog 45 #[.pointer (some ⟨b, 0, none⟩), .agg #[.int .u8 wh, .int .u64 m, .int .i64 k, .int .u64 v]] w fun e w' => e = .returned (.int .i64 0) ∧ Hp W w' (L.set j (aWr b (B ++ cB wh m k v))) F := by
  have hv := ok.lt
  have hm : m < 18446744073709551616 := by have := ok.m1; omega
  have hB2 : B.length ≤ 2 ^ 40 := by omega
  have h4 : wh % 4 = 0 ∨ wh % 4 = 1 ∨ wh % 4 = 2 ∨ wh % 4 = 3 := by omega
  have hw := And.intro ok.w0 ok.w1
  have HK := Lib.hid hk; clear hk
  have H := Lib.hid h; clear h
  have OK := Lib.hid ok; clear ok
  rcases h4 with c | c | c | c
  · have e1 : cB wh m k v = ueB v := if_pos c
    have hp : pueE v = 0 := if_neg (by have := OK.out.v01 (by omega); omega)
    have hp2 : pueB B v = B ++ ueB v := by unfold pueB; rw [if_pos hp]
    rw [e1]
    clear e1
    go_enter Try.func45, Try.ntmps45
    go_wp2_with (first | (go_at_call 18; refine (gput_ue (H.out.lost _) j HK.out hB2 v hv).mono ?_; rintro e w1 ⟨rfl, hS⟩; simp only [hp, hp2] at hS ⊢))
    exact bodyPost_ret (results_tmp rfl _ _ _) rfl ⟨rfl, hS⟩
  · have e1 : cB wh m k v = ueB (seN ((v : Int) - 2147483647)) := by unfold cB; rw [if_neg (by omega), if_pos c]
    have hb := OK.out.v01 (by omega)
    have hp : pseE ((v : Int) - 2147483647) = 0 := if_neg (by omega)
    have hp2 : pseB B ((v : Int) - 2147483647) = B ++ ueB (seN ((v : Int) - 2147483647)) := by unfold pseB; rw [if_pos hp]
    have q1 : IntKind.i64.wrap (v : Int) = v := IntWalk.i64_in _ (by omega)
    have q2 : IntKind.i64.wrap ((v : Int) - 2147483647) = (v : Int) - 2147483647 := IntWalk.i64_in _ (by omega)
    rw [e1]
    clear e1
    go_enter Try.func45, Try.ntmps45
    go_wp2_with (first | (go_at_call 24; refine (gput_se (H.out.lost _) j HK.out hB2 ((v : Int) - 2147483647) (by omega) (by omega)).mono ?_; rintro e w1 ⟨rfl, hS⟩; simp only [hp, hp2] at hS ⊢))
    exact bodyPost_ret (results_tmp rfl _ _ _) rfl ⟨rfl, hS⟩
  · have e1 : cB wh m k v = teB m v := by unfold cB; rw [if_neg (by omega), if_neg (by omega), if_pos c]
    have hb := OK.out.v2 c
    have hm1 := OK.out.m1
    have hp : pteE m v = 0 := if_neg (by omega)
    have hp2 : pteB B m v = B ++ teB m v := by unfold pteB; rw [if_pos hp]
    rw [e1]
    clear e1
    go_enter Try.func45, Try.ntmps45
    go_wp2_with (first | (go_at_call 26; refine (gput_te (H.out.lost _) j HK.out hB2 m v hm hv).mono ?_; rintro e w1 ⟨rfl, hS⟩; simp only [hp, hp2] at hS ⊢))
    exact bodyPost_ret (results_tmp rfl _ _ _) rfl ⟨rfl, hS⟩
  · have e1 : cB wh m k v = ukB k v := by unfold cB; rw [if_neg (by omega), if_neg (by omega), if_neg (by omega)]
    have hb := OK.out.v3 c
    have hk1 := OK.out.k1
    have hp : pukE k v = 0 := if_neg (by rw [Int.toNat_natCast]; omega)
    have hp2 : pukB B k v = B ++ ukB k v := by unfold pukB; rw [if_pos hp]; rfl
    rw [e1]
    clear e1
    go_enter Try.func45, Try.ntmps45
    go_wp2_with (first | (go_at_call 28; refine (gput_uk (H.out.lost _) j HK.out hB k v hv).mono ?_; rintro e w1 ⟨rfl, hS⟩; simp only [hp, hp2] at hS ⊢))
    exact bodyPost_ret (results_tmp rfl _ _ _) rfl ⟨rfl, hS⟩

end Go.Proofs.Ytlmkabpdgemndaa
