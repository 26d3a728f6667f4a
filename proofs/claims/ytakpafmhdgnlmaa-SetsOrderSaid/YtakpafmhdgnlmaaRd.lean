/- The program's reader and the reference's: what each of their functions does, at every state. -/
import Derived.Test.YtakpafmhdgnlmaaProg
import Derived.Test.YtakpafmhdgnlmaaHp
import Derived.Test.YtakpafmhdgnlmaaArith
import Derived.Deep.QuietTactic
import Derived.BigQuiet
import Derived.KernelRfl
import Derived.IntWalk
import Derived.RegionTactic
import Derived.BigRegion
import Derived.ChangeAlike
import Derived.Lib.Hide
namespace Go.Proofs.Ytakpafmhdgnlmaa
open Go.RowKit
set_option linter.unusedVariables false
set_option maxRecDepth 100000
set_option linter.unusedSimpArgs false

section
variable {W w : World} {L : List AObj} {F : List (Nat × Obj)} {b : Nat} {s : ByteArray} {i : Nat}

theorem set_at {L : List AObj} {k : Nat} {x : AObj} (h : L[k]? = some x) (y : AObj) : (L.set k y)[k]? = some y := List.getElem?_set_self (List.getElem?_eq_some_iff.1 h).1
theorem set_same {L : List AObj} {k : Nat} {x : AObj} (h : L[k]? = some x) : L.set k x = L := by
  apply List.ext_getElem?
  intro i
  rw [List.getElem?_set]
  split
  · rename_i e; subst e; rw [h]; simp [(List.getElem?_eq_some_iff.1 h).1]
  · rfl

theorem set_set {L : List AObj} {k : Nat} (x y : AObj) : (L.set k x).set k y = L.set k y := by simp
theorem ret_i64 {a b : Int} (h : a = b) : Value.int .i64 a = Value.int .i64 b := by rw [h]

theorem cells_two {w : World} {b : Nat} {x y : Value} {t : TypeId} (h : w.heap[b]? = some (.cells #[x, y] t (0, 0))) :
    w.cell? ⟨b, 0, none⟩ = some x ∧ w.cell? ⟨b, 1, none⟩ = some y ∧ w.frozen? ⟨b, 0, none⟩ = false ∧ w.frozen? ⟨b, 1, none⟩ = false := by
  simp [World.cell?, World.frozen?, h]

end

/-- The post of a constructor: a pointer to a new object. -/
def Makes (W : World) (L : List AObj) (F : List (Nat × Obj)) (x : Nat → AObj) (e : Ending) (w' : World) : Prop :=
  ∃ b : Nat, e = .returned (.pointer (some ⟨b, 0, none⟩)) ∧ Hp W w' (x b :: L) F

/-- U, at every number: its error, its number, where the reader is then. -/
def uE (s : ByteArray) (i : Nat) (n : Int) : Int := if n < 0 ∨ 64 < n then 3 else if ((8 * s.size - i : Nat) : Int) < n then 5 else 0
def uV (s : ByteArray) (i : Nat) (n : Int) : Nat := if uE s i n = 0 then natB (seg (sbits s) i n.toNat) else 0
def uI (s : ByteArray) (i : Nat) (n : Int) : Nat := if uE s i n = 0 then i + n.toNat else i

theorem uI_le {s : ByteArray} {i : Nat} {n : Int} (h : i ≤ 8 * s.size) : uI s i n ≤ 8 * s.size := by
  unfold uI
  by_cases e : uE s i n = 0
  · rw [if_pos e]
    unfold uE at e
    by_cases c1 : n < 0 ∨ 64 < n
    · rw [if_pos c1] at e; simp at e
    · rw [if_neg c1] at e
      by_cases c2 : ((8 * s.size - i : Nat) : Int) < n
      · rw [if_pos c2] at e; simp at e
      · omega
  · rw [if_neg e]; exact h

theorem uV_one_le (s : ByteArray) (i : Nat) : uV s i 1 ≤ 1 := by
  unfold uV
  split
  · exact seg_one s i
  · omega

end Go.Proofs.Ytakpafmhdgnlmaa
