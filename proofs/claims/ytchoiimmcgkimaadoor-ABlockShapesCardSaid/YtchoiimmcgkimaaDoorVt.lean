/- Type. -/
import Derived.Test.YtchoiimmcgkimaaDoorVm
namespace Go.Proofs.YtchoiimmcgkimaaDoor
open Go.RowKit Go.Shelf
set_option linter.unusedVariables false
set_option maxRecDepth 100000
set_option linter.unusedSimpArgs false

def tyF (intra : Bool) (inc : Int) : Int := if intra then 3 + inc else 15
def tyA (intra : Bool) : Int := if intra then 6 else 16
def b01 (b : Bool) : Int := if b then 1 else 0
def tyE (n : Int) (intra : Bool) (inc : Int) : Int := if 0 ≤ n ∧ n ≤ 25 ∧ 0 ≤ inc ∧ inc ≤ 2 ∧ (intra = false → inc = 0) then 0 else 3
def tyB (n : Int) (intra : Bool) (inc : Int) : List (Int × Int) :=
  if tyE n intra inc = 0 then
    if n = 0 then [(tyF intra inc, 0)] else if n = 25 then [(tyF intra inc, 1)]
    else [(tyF intra inc, 1), (tyA intra, b01 (decide ((n - 1) / 12 = 1))), (tyA intra + 1, b01 (decide ((n - 1) / 4 % 3 ≠ 0)))]
      ++ (if (n - 1) / 4 % 3 = 0 then [] else [(tyA intra + 2, b01 (decide ((n - 1) / 4 % 3 = 2)))])
      ++ [(tyA intra + 3, b01 (decide ((n - 1) % 4 / 2 = 1))), (tyA intra + 4, b01 (decide ((n - 1) % 4 % 2 = 1)))]
  else []

section
variable {W w : World} {L : List AObj} {F : List (Nat × Obj)}
theorem cell_one {w : World} {B : Nat} {v : Value} {t : TypeId} (h : w.heap[B]? = some (.cells #[v] t (0, 0))) : w.cell? ⟨B, 0, none⟩ = some v ∧ w.frozen? ⟨B, 0, none⟩ = false :=
  ⟨by simp [World.cell?, h], by simp [World.frozen?, h]⟩
/-- Two plain blocks are two. -/
theorem Hp.two {p q : Nat × Obj} (h : Hp W w L (p :: q :: F)) : p.1 ≠ q.1 := by
  obtain ⟨b, o, ho, hF, hn, hL⟩ := h
  intro e
  simp [e] at hn
theorem Hp.bn_lit (h : Hp W w L F) (c b : Int) : Hp W (w.alloc (.cells #[.int .i64 c, .int .u8 b] 31)) (aBn (.slice (some ⟨w.heap.size, 0, none⟩) 1 1) [(c, b)] :: L) F := by
  refine h.make ((Below.refl _ _).alloc (Nat.le_refl _) _) ⟨⟨rfl, .inr ⟨w.heap.size, 1, #[.int .i64 c, .int .u8 b], rfl, Nat.zero_le _, World.alloc_heap_new _ _, Nat.le_refl _, by unfold maxLen; omega, rfl, rfl⟩⟩, fun g hg => ?_⟩
  simp [Value.ownBlock] at hg
  subst hg
  simp

theorem dec_beq (a b : Int) : (a == b) = decide (a = b) := rfl
theorem dec_bne (a b : Int) : (a != b) = decide (a ≠ b) := by
  by_cases h : a = b <;> simp [h]

end

end Go.Proofs.YtchoiimmcgkimaaDoor
