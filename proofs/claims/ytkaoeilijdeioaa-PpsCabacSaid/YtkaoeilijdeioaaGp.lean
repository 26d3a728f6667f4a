/- The program's Exp-Golomb codes, the other kinds: what each function does, at every state. -/
import Derived.Test.YtkaoeilijdeioaaGo
namespace Go.Proofs.Ytkaoeilijdeioaa
open Go.RowKit
set_option linter.unusedVariables false
set_option maxRecDepth 100000
set_option linter.unusedSimpArgs false

theorem ueV_not {s : ByteArray} {i : Nat} (h : ueE s i ≠ 0) : ueV s i = 0 := by unfold ueV; rw [if_neg h]
theorem at_succ {L : List AObj} {k : Nat} {x y : AObj} (h : L[k]? = some y) : (x :: L)[k + 1]? = some y := by simpa using h
theorem set_succ {L : List AObj} {k : Nat} {x y : AObj} : (x :: L).set (k + 1) y = x :: L.set k y := rfl

theorem gse_any {W w : World} {L : List AObj} {F : List (Nat × Obj)} (h : Hp W w L F) (k : Nat) {b : Nat} {s : ByteArray} {i : Nat} (hk : L[k]? = some (aRd b s i)) :
    Calls Try.prog 45 #[.pointer (some ⟨b, 0, none⟩)] w fun e w' => e = .returned (.tuple #[.int .i64 (seV s i), .int .i64 (ueE s i)]) ∧ Hp W w' (L.set k (aRd b s (ueI s i))) F := by
  have HK := Lib.hid hk; clear hk
  have H := Lib.hid h; clear h
  have hv := ueV_lt s i
  by_cases h0 : ueE s i = 0
  · unfold seV
    generalize hV : ueV s i = V at *
    by_cases h2 : V % 2 = 1
    · have q1 : (V : Int) % 2 = 1 := by omega
      have q2 : IntKind.i64.wrap ((V : Int) + 1) = (V : Int) + 1 := IntWalk.i64_in _ (by omega)
      rw [if_pos h2]
      go_enter Try.func45, Try.ntmps45
      go_wp2_with (first | (go_at_call 40; refine (gue_any H.out k HK.out).mono ?_; rintro e w1 ⟨rfl, hS⟩; simp only [hV, h0] at hS ⊢))
      refine bodyPost_ret (results_tmp2 rfl _ _ _) rfl ⟨?_, hS⟩
      show Ending.returned (.tuple #[.int .i64 (((V : Int) + 1) / 2), .int .i64 0]) = _
      rw [h0, show ((V : Int) + 1) / 2 = ((V / 2 + 1 : Nat) : Int) by omega]
    · have q1 : (V : Int) % 2 = 0 := by omega
      have q2 : IntKind.i64.wrap ((V : Int) + 1) = (V : Int) + 1 := IntWalk.i64_in _ (by omega)
      rw [if_neg h2]
      go_enter Try.func45, Try.ntmps45
      go_wp2_with (first | (go_at_call 40; refine (gue_any H.out k HK.out).mono ?_; rintro e w1 ⟨rfl, hS⟩; simp only [hV, h0] at hS ⊢))
      refine bodyPost_ret (results_tmp2 rfl _ _ _) rfl ⟨?_, hS⟩
      show Ending.returned (.tuple #[.int .i64 (-(((V : Int) + 1) / 2)), .int .i64 0]) = _
      rw [h0, show ((V : Int) + 1) / 2 = ((V / 2 : Nat) : Int) by omega]
  · have h0' : (ueE s i == 0) = false := by simp [h0]
    have e1 : seV s i = 0 := by unfold seV; rw [ueV_not h0]; rfl
    rw [e1]
    clear hv h0 e1
    go_enter Try.func45, Try.ntmps45
    go_wp2_with (first | (go_at_call 40; refine (gue_any H.out k HK.out).mono ?_; rintro e w1 ⟨rfl, hS⟩))
    exact bodyPost_ret (results_tmp2 rfl _ _ _) rfl ⟨rfl, hS⟩

theorem gse_nil (w : World) : Calls Try.prog 45 #[.pointer none] w fun e w' => e = .returned (.tuple #[.int .i64 0, .int .i64 1]) ∧ w = w' := by
  go_enter Try.func45, Try.ntmps45
  go_wp2_with (go_at_call 40; refine (gue_nil _).mono ?_; rintro e w1 ⟨rfl, rfl⟩)
  exact bodyPost_ret (results_tmp2 rfl _ _ _) rfl ⟨rfl, rfl⟩

theorem gput_se {W w : World} {L : List AObj} {F : List (Nat × Obj)} (h : Hp W w L F) (k : Nat) {b : Nat} {B : List Bool} (hk : L[k]? = some (aWr b B)) (hB : B.length ≤ 2 ^ 40) (v : Int) (h1 : -9223372036854775808 ≤ v) (h2 : v ≤ 9223372036854775807) :
    Calls Try.prog 24 #[.pointer (some ⟨b, 0, none⟩), .int .i64 v] w fun e w' => e = .returned (.int .i64 (pseE v)) ∧ Hp W w' (L.set k (aWr b (pseB B v))) F := by
  by_cases c1 : v < -2147483647 ∨ 2147483647 < v
  · have e1 : pseE v = 3 := if_pos c1
    have e2 : pseB B v = B := by unfold pseB; rw [e1]; rfl
    rw [e1, e2, set_same hk]
    have H := Lib.hid h; clear h hk e1 e2
    rcases c1 with c1 | c1
    · have hd : decide (v < -2147483647) = true := by simpa using c1
      go_enter Try.func24, Try.ntmps24
      go_wp2
      exact bodyPost_ret (results_tmp rfl _ _ _) rfl ⟨rfl, H.out⟩
    · have hd : decide (v < -2147483647) = false := by simp; omega
      have hd2 : decide (2147483647 < v) = true := by simpa using c1
      go_enter Try.func24, Try.ntmps24
      go_wp2
      exact bodyPost_ret (results_tmp rfl _ _ _) rfl ⟨rfl, H.out⟩
  · have e1 : pseE v = 0 := if_neg c1
    have e2 : pseB B v = B ++ ueB (seN v) := by unfold pseB; rw [if_pos e1]
    have hd : decide (v < -2147483647) = false := by simp; omega
    have hd2 : decide (2147483647 < v) = false := by simp; omega
    have hb : -2147483647 ≤ v ∧ v ≤ 2147483647 := by omega
    rw [e1, e2]
    have H := Lib.hid h; clear h e1 e2 c1
    have HK := Lib.hid hk; clear hk
    by_cases h0 : 0 < v
    · have hn : seN v = (2 * v - 1).toNat := if_pos h0
      obtain ⟨n, hn'⟩ : ∃ n : Nat, 2 * v - 1 = (n : Int) := ⟨(2 * v - 1).toNat, by omega⟩
      have hn2 : seN v = n := by omega
      have hd3 : decide (0 < v) = true := by simpa using h0
      have hp : pueE n = 0 := if_neg (by omega)
      have hp2 : pueB B n = B ++ ueB n := by unfold pueB; rw [if_pos hp]
      have q1 : IntKind.i64.wrap (2 * v - 1) = (n : Int) := by rw [← hn']; exact IntWalk.i64_in _ (by omega)
      have q2 : IntKind.i64.wrap (2 * v) = 2 * v := IntWalk.i64_in _ (by omega)
      have q3 : IntKind.u64.wrap (n : Int) = n := w_u64 (by omega)
      have hn64 : n < 18446744073709551616 := by omega
      rw [hn2]
      clear hn hn2
      have Hn := Lib.hid hn'; clear hn'
      clear h0
      go_enter Try.func24, Try.ntmps24
      go_wp2_with (first | (go_at_call 21; refine (gput_ue H.out k HK.out hB n hn64).mono ?_; rintro e w1 ⟨rfl, hS⟩; simp only [hp, hp2] at hS ⊢))
      exact bodyPost_ret (results_tmp rfl _ _ _) rfl ⟨rfl, hS⟩
    · have hn : seN v = (-2 * v).toNat := if_neg h0
      obtain ⟨n, hn'⟩ : ∃ n : Nat, -2 * v = (n : Int) := ⟨(-2 * v).toNat, by omega⟩
      have hn2 : seN v = n := by omega
      have hd3 : decide (0 < v) = false := by simpa using h0
      have hp : pueE n = 0 := if_neg (by omega)
      have hp2 : pueB B n = B ++ ueB n := by unfold pueB; rw [if_pos hp]
      have q1 : IntKind.i64.wrap (-2 * v) = (n : Int) := by rw [← hn']; exact IntWalk.i64_in _ (by omega)
      have q3 : IntKind.u64.wrap (n : Int) = n := w_u64 (by omega)
      have hn64 : n < 18446744073709551616 := by omega
      rw [hn2]
      clear hn hn2
      have Hn := Lib.hid hn'; clear hn'
      clear h0
      go_enter Try.func24, Try.ntmps24
      go_wp2_with (first | (go_at_call 21; refine (gput_ue H.out k HK.out hB n hn64).mono ?_; rintro e w1 ⟨rfl, hS⟩; simp only [hp, hp2] at hS ⊢))
      exact bodyPost_ret (results_tmp rfl _ _ _) rfl ⟨rfl, hS⟩

theorem gput_se_nil (v : Int) (w : World) : Calls Try.prog 24 #[.pointer none, .int .i64 v] w fun e w' => e = .returned (.int .i64 1) ∧ w = w' := by
  go_enter Try.func24, Try.ntmps24
  go_wp2
  exact bodyPost_ret (results_tmp rfl _ _ _) rfl ⟨rfl, rfl⟩

theorem pE_bit {v : Nat} (h : v ≤ 1) : pE 1 v = 0 := pE_ok (n := 1) (by omega) (by omega)

def uk1V (s : ByteArray) (i m : Nat) : Nat := if ueE s i = 0 then ueV s i * 2 ^ m + uV s (ueI s i) m else 0
def uk1I (s : ByteArray) (i m : Nat) : Nat := if ueE s i = 0 then uI s (ueI s i) m else i

theorem Hp.cell0 {W w : World} {L : List AObj} {F : List (Nat × Obj)} (h : Hp W w L F) {q : Nat} {x : Value} {t : TypeId} (hq : (q, Obj.cells #[x] t (0, 0)) ∈ F) : w.cell? ⟨q, 0, none⟩ = some x := by
  have := h.blk hq
  simp [World.cell?, this]

theorem uk_val {a c m : Nat} (ha : a < 4294967295) (hm : m ≤ 8) (hc : c < 2 ^ m) : bits .or .u64 (IntKind.u64.wrap ((a : Int) * 2 ^ m)) (c : Int) = ((a * 2 ^ m + c : Nat) : Int) := by
  have h1 : 2 ^ m ≤ 2 ^ 8 := Nat.pow_le_pow_right (by omega) hm
  have h3 : (2 : Nat) ^ 8 = 256 := by decide
  have h2 : a * 2 ^ m ≤ 4294967295 * 256 := Nat.mul_le_mul (by omega) (by omega)
  have e : (a : Int) * 2 ^ m = ((a * 2 ^ m : Nat) : Int) := by push_cast; rfl
  rw [e, w_u64 (by omega)]
  exact or_u64 m hc (by omega)

end Go.Proofs.Ytkaoeilijdeioaa
