/- The program's More and End. -/
import Derived.Test.YtkaoeilijdeioaaTr
import Derived.Deep.RegionHeld3
namespace Go.Proofs.Ytkaoeilijdeioaa
open Go.RowKit
set_option linter.unusedVariables false
set_option maxRecDepth 100000
set_option linter.unusedSimpArgs false

theorem scan_cells {W w : World} {L : List AObj} {F : List (Nat × Obj)} {x c : Nat} (h : Hp W w L ((x, .cells #[fU c, fLeft c] 99 (0, 0)) :: F)) :
    w.cell? ⟨x, 0, none⟩ = some (fU c) ∧ w.cell? ⟨x, 1, none⟩ = some (fLeft c) :=
  let ⟨a, b, _, _⟩ := cells_two (h.blk (List.mem_cons_self ..)); ⟨a, b⟩
theorem u_bit {W w : World} {L : List AObj} {F : List (Nat × Obj)} {b : Nat} {s : ByteArray} {i : Nat} (h : Hp W w L F) (k : Nat) (hk : L[k]? = some (aRd b s i)) {V : Nat} (hV : V = bt s i) (hi : i < 8 * s.size) :
    Calls Try.prog 49 #[.pointer (some ⟨b, 0, none⟩), .int .i64 1] w fun e w' => e = .returned (.tuple #[.int .u64 V, .int .i64 0]) ∧ Hp W w' (L.set k (aRd b s (i + 1))) F := by
  subst hV
  exact u_good h k hk 1 (by omega) (by omega)
theorem u_end {W w : World} {L : List AObj} {F : List (Nat × Obj)} {b : Nat} {s : ByteArray} {i : Nat} (h : Hp W w L F) (k : Nat) (hk : L[k]? = some (aRd b s i)) (hi : 8 * s.size ≤ i) :
    Calls Try.prog 49 #[.pointer (some ⟨b, 0, none⟩), .int .i64 1] w fun e w' => e = .returned (.tuple #[.int .u64 0, .int .i64 5]) ∧ Hp W w' L F :=
  (u_short h k hk 1 (by omega) (by omega)).mono fun _ _ ⟨he, q, hw⟩ => ⟨he, hw ▸ h.drewN q⟩
theorem zero_rest {W w : World} {L : List AObj} {F : List (Nat × Obj)} (h : Hp W w L F) (k : Nat) {c : Nat} {s : ByteArray} {i : Nat} (hk : L[k]? = some (aRd c s (i + 1))) {l : Nat} (hl : l = 8 * s.size - i) {z : Bool} (hz : zR s (i + 1) = z) (hs : s.size ≤ 2 ^ 48) :
    Calls Try.prog 67 #[.agg #[fU c, fLeft c], .int .i64 l] w fun e w' => e = .returned (.bool z) ∧ ∃ j', Hp W w' (L.set k (aRd c s j')) F := by
  subst hl hz
  have := zero_any h k hk (8 * s.size - i) (by omega)
  rw [show min (8 * s.size - i) (8 * s.size - (i + 1)) = 8 * s.size - (i + 1) by omega] at this
  exact this

theorem at_succ' {L : List AObj} {k : Nat} {x y : AObj} (h : L[k]? = some x) : (y :: L)[k + 1]? = some x := by simpa using h

end Go.Proofs.Ytkaoeilijdeioaa
