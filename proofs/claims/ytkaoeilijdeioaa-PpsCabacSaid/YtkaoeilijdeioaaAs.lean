/- The readers' and writers' contracts at values that are known: for the chapters' examples. -/
import Derived.Test.YtkaoeilijdeioaaQuiet
namespace Go.Proofs.Ytkaoeilijdeioaa
open Go.RowKit
set_option linter.unusedVariables false
set_option maxRecDepth 100000
set_option linter.unusedSimpArgs false

section
variable {W w : World} {L : List AObj} {F : List (Nat × Obj)} {b : Nat}
theorem u_as (h : Hp W w L F) (k : Nat) {s : ByteArray} {i : Nat} (hk : L[k]? = some (aRd b s i)) (n : Int) {j v : Nat} {z e0 : Int} (hx : uE s i n = e0 ∧ uI s i n = j ∧ uV s i n = v ∧ (v : Int) = z) :
    Calls Try.prog 49 #[.pointer (some ⟨b, 0, none⟩), .int .i64 n] w fun e w' => e = .returned (.tuple #[.int .u64 z, .int .i64 e0]) ∧ Hp W w' (L.set k (aRd b s j)) F := by
  obtain ⟨rfl, rfl, rfl, rfl⟩ := hx
  exact u_any h k hk n
theorem bit_as (h : Hp W w L F) (k : Nat) {s : ByteArray} {i : Nat} (hk : L[k]? = some (aRd b s i)) {j v : Nat} {z e0 : Int} (hx : uE s i 1 = e0 ∧ uI s i 1 = j ∧ uV s i 1 = v ∧ (v : Int) = z) :
    Calls Try.prog 76 #[.pointer (some ⟨b, 0, none⟩)] w fun e w' => e = .returned (.tuple #[.int .u8 z, .int .i64 e0]) ∧ Hp W w' (L.set k (aRd b s j)) F := by
  obtain ⟨rfl, rfl, rfl, rfl⟩ := hx
  exact bit_any h k hk
theorem rd_as (h : Hp W w L F) (s : ByteArray) (hs : s.size ≤ 2 ^ 48) :
    Calls Try.prog 36 #[.string s] w (Makes W L F fun b => aRd b s 0) := read_any h s hs
theorem put_as (h : Hp W w L F) (k : Nat) {B : List Bool} (hk : L[k]? = some (aWr b B)) (hB : B.length ≤ 2 ^ 40) (n v : Int) (h0 : 0 ≤ v) (hv : v < 18446744073709551616) {e0 : Int} {B' : List Bool} (hx : pE n v.toNat = e0 ∧ pB B n v.toNat = B') :
    Calls Try.prog 22 #[.pointer (some ⟨b, 0, none⟩), .int .i64 n, .int .u64 v] w fun e w' => e = .returned (.int .i64 e0) ∧ Hp W w' (L.set k (aWr b B')) F := by
  obtain ⟨rfl, rfl⟩ := hx
  exact put_int h k hk hB n v h0 hv
theorem len_as (h : Hp W w L F) (k : Nat) {B : List Bool} (hk : L[k]? = some (aWr b B)) (hB : B.length ≤ 2 ^ 41) {z : Int} (hz : (B.length : Int) = z) :
    Calls Try.prog 62 #[.pointer (some ⟨b, 0, none⟩)] w fun e w' => e = .returned (.int .i64 z) ∧ Hp W w' L F := by subst hz; exact len_hp h k hk hB
theorem len_is (h : Hp W w L F) (k : Nat) {B : List Bool} (hk : L[k]? = some (aWr b B)) (hB : B.length ≤ 2 ^ 41) {N : Nat} (hz : N = B.length) :
    Calls Try.prog 62 #[.pointer (some ⟨b, 0, none⟩)] w fun e w' => e = .returned (.int .i64 (N : Int)) ∧ Hp W w' L F := by subst hz; exact len_hp h k hk hB
theorem bytes_eq (h : Hp W w L F) (k : Nat) {B : List Bool} (hk : L[k]? = some (aWr b B)) (hB : B.length ≤ 2 ^ 41) {S : ByteArray} (hS : pstr B = S) :
    Calls Try.prog 26 #[.pointer (some ⟨b, 0, none⟩)] w fun e w' => e = .returned (.string S) ∧ Hp W w' L F := by subst hS; exact bytes_any h k hk hB
theorem left_eq (h : Hp W w L F) (k : Nat) {s : ByteArray} {i : Nat} (hk : L[k]? = some (aRd b s i)) {z : Int} (hz : ((8 * s.size - i : Nat) : Int) = z) :
    Calls Try.prog 65 #[.pointer (some ⟨b, 0, none⟩)] w fun e w' => e = .returned (.int .i64 z) ∧ Hp W w' L F := by subst hz; exact left_hp h k hk
theorem left_as (h : Hp W w L F) (k : Nat) {s : ByteArray} {i l : Nat} (hk : L[k]? = some (aRd b s i)) (hl : l = 8 * s.size - i) :
    Calls Try.prog 65 #[.pointer (some ⟨b, 0, none⟩)] w fun e w' => e = .returned (.int .i64 (l : Int)) ∧ Hp W w' L F := by subst hl; exact left_hp h k hk
end
theorem left_nil (w : World) : Calls Try.prog 65 #[.pointer none] w fun e w' => e = .returned (.int .i64 0) ∧ w = w' := by
  go_enter Try.func65, Try.ntmps65
  go_wp2
  go_ret
  exact ⟨rfl, rfl⟩
theorem copy_nil (w : World) : Calls Try.prog 75 #[.pointer none] w fun e w' => e = .returned (.pointer none) ∧ w = w' := by
  go_enter Try.func75, Try.ntmps75
  go_wp2
  go_ret
  exact ⟨rfl, rfl⟩
theorem cell_in {W w : World} {L : List AObj} {F : List (Nat × Obj)} (h : Hp W w L F) {g c : Nat} {cs : Array Value} {t : TypeId} {x : Value} (hm : (g, Obj.cells cs t (0, 0)) ∈ F) (hx : cs[c]? = some x) : w.cell? ⟨g, c, none⟩ = some x := by
  have := h.blk hm
  simp only at this
  simp [World.cell?, this, hx]

end Go.Proofs.Ytkaoeilijdeioaa
