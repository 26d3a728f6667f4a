/- The program's Exp-Golomb codes, the other kinds: what each function does, at every state. -/
import Derived.Test.YtnigpledibhiaaaGo
namespace Go.Proofs.Ytnigpledibhiaaa
open Go.RowKit
set_option linter.unusedVariables false
set_option maxRecDepth 100000
set_option linter.unusedSimpArgs false

theorem ueV_not {s : ByteArray} {i : Nat} (h : ueE s i ≠ 0) : ueV s i = 0 := by unfold ueV; rw [if_neg h]
theorem at_succ {L : List AObj} {k : Nat} {x y : AObj} (h : L[k]? = some y) : (x :: L)[k + 1]? = some y := by simpa using h
theorem set_succ {L : List AObj} {k : Nat} {x y : AObj} : (x :: L).set (k + 1) y = x :: L.set k y := rfl

theorem pE_bit {v : Nat} (h : v ≤ 1) : pE 1 v = 0 := pE_ok (n := 1) (by omega) (by omega)

def uk1V (s : ByteArray) (i m : Nat) : Nat := if ueE s i = 0 then ueV s i * 2 ^ m + uV s (ueI s i) m else 0
def uk1I (s : ByteArray) (i m : Nat) : Nat := if ueE s i = 0 then uI s (ueI s i) m else i

theorem Hp.cell0 {W w : World} {L : List AObj} {F : List (Nat × Obj)} (h : Hp W w L F) {q : Nat} {x : Value} {t : TypeId} (hq : (q, Obj.cells #[x] t (0, 0)) ∈ F) : w.cell? ⟨q, 0, none⟩ = some x := by
  have := h.blk hq
  simp [World.cell?, this]

theorem uk_val {a c m : Nat} (ha : a < 4294967295) (hm : m ≤ 8) (hc : c < 2 ^ m) : bits .or .u64 (IntKind.u64.wrap ((a : Int) * 2 ^ m)) (c : Int) = ((a * 2 ^ m + c : Nat) : Int) := by
  have h1 : 2 ^ m ≤ 2 ^ 8 := Nat.pow_le_pow_right (by omega) hm
  have h3 : (2 : Nat) ^ 8 = 256 := by decide
  have h2 : a * 2 ^ m ≤ 4294967295 * 256 := Nat.mul_le_mul (by omega) (by omega)
  have e : (a : Int) * 2 ^ m = ((a * 2 ^ m : Nat) : Int) := by push_cast; rfl
  rw [e, w_u64 (by omega)]
  exact or_u64 m hc (by omega)

end Go.Proofs.Ytnigpledibhiaaa
