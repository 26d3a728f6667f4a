/- The closures of the program's Decode of picture parameter sets. -/
import Derived.Test.YtkaoeilijdeioaaYp
import Derived.Test.YtkaoeilijdeioaaPp
import Derived.Test.YtkaoeilijdeioaaGp
import Derived.Test.YtkaoeilijdeioaaTe
namespace Go.Proofs.Ytkaoeilijdeioaa
open Go.RowKit
set_option linter.unusedVariables false
set_option maxRecDepth 100000
set_option linter.unusedSimpArgs false

theorem one_cell {w : World} {b : Nat} {x : Value} {t : TypeId} (h : w.heap[b]? = some (.cells #[x] t (0, 0))) : w.cell? ⟨b, 0, none⟩ = some x ∧ w.frozen? ⟨b, 0, none⟩ = false := by
  simp [World.cell?, World.frozen?, h]
/-- The box of the first error. -/
@[reducible] def fOb (e : Int) : Obj := .cells #[.int .i64 e] 24 (0, 0)
section
variable {W w : World} {L : List AObj} {F : List (Nat × Obj)} {eb : Nat}
theorem Hp.f_set {e : Int} (h : Hp W w L ((eb, fOb e) :: F)) (e' : Int) : Hp W (w.setCell ⟨eb, 0, none⟩ (.int .i64 e')) L ((eb, fOb e') :: F) := h.set 0 rfl 0 _

/-- Ue through the closure. -/
theorem rdue_any (h : Hp W w L F) {k r : Nat} {s : ByteArray} {i : Nat} (hk : L[k]? = some (aRd r s i)) {rb : Nat} {tr : TypeId} (hr : (rb, Obj.cells #[.pointer (some ⟨r, 0, none⟩)] tr (0, 0)) ∈ F) {v : Nat} {z : Int} {i' : Nat} (hx : ueV s i = v ∧ ueE s i = z ∧ ueI s i = i') :
    Calls Try.prog 39 #[.pointer (some ⟨rb, 0, none⟩)] w fun ex w' => ex = .returned (.tuple #[.int .u64 v, .int .i64 z]) ∧ Hp W w' (L.set k (aRd r s i')) F := by
  obtain ⟨c1, -⟩ := one_cell (h.blk hr)
  have hG : Calls Try.prog 40 #[.pointer (some ⟨r, 0, none⟩)] w fun e w' => e = .returned (.tuple #[.int .u64 v, .int .i64 z]) ∧ Hp W w' (L.set k (aRd r s i')) F := by
    obtain ⟨y1, y2, y3⟩ := hx
    have := gue_any h k hk
    rwa [y1, y2, y3] at this
  have HG := Lib.hid hG
  clear h hk hr hx hG
  go_enter Try.func39, Try.ntmps39
  go_wp2_with (first | (go_at_call 40; (with_reducible refine HG.out.mono ?_); rintro e w1 ⟨rfl, hS⟩))
  first
    | exact bodyPost_ret (results_tmp2 rfl _ _ _) rfl ⟨rfl, hS⟩
    | exact bodyPost_ret (results_tmp rfl _ _ _) rfl ⟨rfl, hS⟩
theorem rdse_any (h : Hp W w L F) {k r : Nat} {s : ByteArray} {i : Nat} (hk : L[k]? = some (aRd r s i)) {rb : Nat} {tr : TypeId} (hr : (rb, Obj.cells #[.pointer (some ⟨r, 0, none⟩)] tr (0, 0)) ∈ F) {v : Int} {z : Int} {i' : Nat} (hx : seV s i = v ∧ ueE s i = z ∧ ueI s i = i') :
    Calls Try.prog 44 #[.pointer (some ⟨rb, 0, none⟩)] w fun ex w' => ex = .returned (.tuple #[.int .i64 v, .int .i64 z]) ∧ Hp W w' (L.set k (aRd r s i')) F := by
  obtain ⟨c1, -⟩ := one_cell (h.blk hr)
  have hG : Calls Try.prog 45 #[.pointer (some ⟨r, 0, none⟩)] w fun e w' => e = .returned (.tuple #[.int .i64 v, .int .i64 z]) ∧ Hp W w' (L.set k (aRd r s i')) F := by
    obtain ⟨y1, y2, y3⟩ := hx
    have := gse_any h k hk
    rwa [y1, y2, y3] at this
  have HG := Lib.hid hG
  clear h hk hr hx hG
  go_enter Try.func44, Try.ntmps44
  go_wp2_with (first | (go_at_call 45; (with_reducible refine HG.out.mono ?_); rintro e w1 ⟨rfl, hS⟩))
  first
    | exact bodyPost_ret (results_tmp2 rfl _ _ _) rfl ⟨rfl, hS⟩
    | exact bodyPost_ret (results_tmp rfl _ _ _) rfl ⟨rfl, hS⟩
theorem rdu_any (h : Hp W w L F) {k r : Nat} {s : ByteArray} {i : Nat} (hk : L[k]? = some (aRd r s i)) {rb nb : Nat} {tr tn : TypeId} (hr : (rb, Obj.cells #[.pointer (some ⟨r, 0, none⟩)] tr (0, 0)) ∈ F) {n : Int} (hn : (nb, Obj.cells #[.int .i64 n] tn (0, 0)) ∈ F) {v : Nat} {z : Int} {i' : Nat} (hx : uV s i n = v ∧ uE s i n = z ∧ uI s i n = i') :
    Calls Try.prog 48 #[.pointer (some ⟨rb, 0, none⟩), .pointer (some ⟨nb, 0, none⟩)] w fun ex w' => ex = .returned (.tuple #[.int .u64 v, .int .i64 z]) ∧ Hp W w' (L.set k (aRd r s i')) F := by
  obtain ⟨c1, -⟩ := one_cell (h.blk hr)
  obtain ⟨c2, -⟩ := one_cell (h.blk hn)
  have hG : Calls Try.prog 49 #[.pointer (some ⟨r, 0, none⟩), .int .i64 n] w fun e w' => e = .returned (.tuple #[.int .u64 v, .int .i64 z]) ∧ Hp W w' (L.set k (aRd r s i')) F := by
    obtain ⟨y1, y2, y3⟩ := hx
    have := u_any h k hk n
    rwa [y1, y2, y3] at this
  have HG := Lib.hid hG
  clear h hk hr hn hx hG
  go_enter Try.func48, Try.ntmps48
  go_wp2_with (first | (go_at_call 49; (with_reducible refine HG.out.mono ?_); rintro e w1 ⟨rfl, hS⟩))
  first
    | exact bodyPost_ret (results_tmp2 rfl _ _ _) rfl ⟨rfl, hS⟩
    | exact bodyPost_ret (results_tmp rfl _ _ _) rfl ⟨rfl, hS⟩
theorem vl1_any (h : Hp W w L F) {mb : Nat} {tm : TypeId} {m : Nat} (hm : (mb, Obj.cells #[.int .u64 (m : Int)] tm (0, 0)) ∈ F) (v : Nat) {b : Bool} (hb : decide (v ≤ m) = b) :
    Calls Try.prog 41 #[.int .u64 v, .pointer (some ⟨mb, 0, none⟩)] w fun ex w' => ex = .returned (.bool b) ∧ Hp W w' L F := by
  obtain ⟨c1, -⟩ := one_cell (h.blk hm)
  have d : decide ((v : Int) ≤ (m : Int)) = b := by rw [← hb]; simp
  have H := Lib.hid h
  clear h hm
  go_enter Try.func41, Try.ntmps41
  go_wp2_with (fail)
  exact bodyPost_ret (results_tmp rfl _ _ _) rfl ⟨rfl, H.out⟩
theorem vl3_any (h : Hp W w L F) {mb : Nat} {tm : TypeId} {m : Nat} (hm : (mb, Obj.cells #[.int .u64 (m : Int)] tm (0, 0)) ∈ F) (v : Nat) {b : Bool} (hb : decide (v ≤ m) = b) :
    Calls Try.prog 50 #[.int .u64 v, .pointer (some ⟨mb, 0, none⟩)] w fun ex w' => ex = .returned (.bool b) ∧ Hp W w' L F := by
  obtain ⟨c1, -⟩ := one_cell (h.blk hm)
  have d : decide ((v : Int) ≤ (m : Int)) = b := by rw [← hb]; simp
  have H := Lib.hid h
  clear h hm
  go_enter Try.func50, Try.ntmps50
  go_wp2_with (fail)
  exact bodyPost_ret (results_tmp rfl _ _ _) rfl ⟨rfl, H.out⟩
end
end Go.Proofs.Ytkaoeilijdeioaa
