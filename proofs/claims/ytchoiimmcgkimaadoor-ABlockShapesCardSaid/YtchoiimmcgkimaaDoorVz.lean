/- Bins as lists: plain facts. No program in sight. -/
import Derived.WalkKit
namespace Go.Proofs.YtchoiimmcgkimaaDoor
open Go.RowKit
set_option linter.unusedVariables false
set_option maxRecDepth 100000
set_option linter.unusedSimpArgs false

/-- A bin as a value. -/
def bvl (b : Int × Int) : Value := .agg #[.int .i64 b.1, .int .u8 b.2]
/-- The cells of bins. -/
def bcs : List (Int × Int) → List Value
  | [] => []
  | b :: r => .int .i64 b.1 :: .int .u8 b.2 :: bcs r
theorem bcs_append : ∀ a b : List (Int × Int), bcs (a ++ b) = bcs a ++ bcs b
  | [], _ => rfl
  | x :: a, b => by simp [bcs, bcs_append a b]
theorem bcs_length : ∀ a : List (Int × Int), (bcs a).length = a.length * 2
  | [] => rfl
  | x :: a => by simp [bcs, bcs_length a]; omega
theorem bcs_at : ∀ (a : List (Int × Int)) (i : Nat) (x : Int × Int), a[i]? = some x → (bcs a)[i * 2]? = some (.int .i64 x.1) ∧ (bcs a)[i * 2 + 1]? = some (.int .u8 x.2)
  | [], i, x, h => by simp at h
  | y :: a, 0, x, h => by simp at h; subst h; exact ⟨rfl, rfl⟩
  | y :: a, i + 1, x, h => by
    obtain ⟨h1, h2⟩ := bcs_at a i x (by simpa using h)
    rw [show (i + 1) * 2 = i * 2 + 1 + 1 by omega]
    exact ⟨by simpa [bcs] using h1, by simpa [bcs] using h2⟩
theorem bcs_one (l : List (Int × Int)) : ∀ u ∈ bcs l, u.oneCell' = true := by
  induction l with
  | nil => intro u hu; simp [bcs] at hu
  | cons x l ih =>
    intro u hu
    simp only [bcs, List.mem_cons] at hu
    rcases hu with rfl | rfl | hu
    · rfl
    · rfl
    · exact ih u hu

/-- The context of bin i: the last one again and again. -/
def rowAt (l : List Int) (i : Nat) : Int := l.getD (min i (l.length - 1)) 0
/-- v bins 1, and a bin 0 unless v is most. -/
def cntB (l : List Int) (v : Nat) (fin : Bool) : List (Int × Int) := (List.range v).map (fun i => (rowAt l i, 1)) ++ if fin then [(rowAt l v, 0)] else []
theorem cntB_length (l : List Int) (v : Nat) (fin : Bool) : (cntB l v fin).length = v + if fin then 1 else 0 := by
  unfold cntB; cases fin <;> simp
/-- The last n bits of a number, the highest one first. -/
def digB (v : Nat) : Nat → List (Int × Int)
  | 0 => []
  | n + 1 => (-1, ((v / 2 ^ n % 2 : Nat) : Int)) :: digB v n
theorem digB_length (v : Nat) : ∀ n, (digB v n).length = n
  | 0 => rfl
  | n + 1 => by simp [digB, digB_length v n]
end Go.Proofs.YtchoiimmcgkimaaDoor
