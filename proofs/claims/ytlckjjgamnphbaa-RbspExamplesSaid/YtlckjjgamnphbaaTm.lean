/- The program's More and End. -/
import Derived.Test.YtlckjjgamnphbaaTr
import Derived.Deep.RegionHeld3
namespace Go.Proofs.Ytlckjjgamnphbaa
open Go.RowKit
set_option linter.unusedVariables false
set_option maxRecDepth 100000
set_option linter.unusedSimpArgs false

theorem scan_cells {W w : World} {L : List AObj} {F : List (Nat × Obj)} {x c : Nat} (h : Hp W w L ((x, .cells #[fU c, fLeft c] 67 (0, 0)) :: F)) :
    w.cell? ⟨x, 0, none⟩ = some (fU c) ∧ w.cell? ⟨x, 1, none⟩ = some (fLeft c) :=
  let ⟨a, b, _, _⟩ := cells_two (h.blk (List.mem_cons_self ..)); ⟨a, b⟩
theorem u_bit {W w : World} {L : List AObj} {F : List (Nat × Obj)} {b : Nat} {s : ByteArray} {i : Nat} (h : Hp W w L F) (k : Nat) (hk : L[k]? = some (aRd b s i)) {V : Nat} (hV : V = bt s i) (hi : i < 8 * s.size) :
    Calls Try.prog 37 #[.pointer (some ⟨b, 0, none⟩), .int .i64 1] w fun e w' => e = .returned (.tuple #[.int .u64 V, .int .i64 0]) ∧ Hp W w' (L.set k (aRd b s (i + 1))) F := by
  subst hV
  exact u_good h k hk 1 (by omega) (by omega)
theorem u_end {W w : World} {L : List AObj} {F : List (Nat × Obj)} {b : Nat} {s : ByteArray} {i : Nat} (h : Hp W w L F) (k : Nat) (hk : L[k]? = some (aRd b s i)) (hi : 8 * s.size ≤ i) :
    Calls Try.prog 37 #[.pointer (some ⟨b, 0, none⟩), .int .i64 1] w fun e w' => e = .returned (.tuple #[.int .u64 0, .int .i64 5]) ∧ Hp W w' L F :=
  (u_short h k hk 1 (by omega) (by omega)).mono fun _ _ ⟨he, q, hw⟩ => ⟨he, hw ▸ h.drewN q⟩
theorem zero_rest {W w : World} {L : List AObj} {F : List (Nat × Obj)} (h : Hp W w L F) (k : Nat) {c : Nat} {s : ByteArray} {i : Nat} (hk : L[k]? = some (aRd c s (i + 1))) {l : Nat} (hl : l = 8 * s.size - i) {z : Bool} (hz : zR s (i + 1) = z) (hs : s.size ≤ 2 ^ 48) :
    Calls Try.prog 36 #[.agg #[fU c, fLeft c], .int .i64 l] w fun e w' => e = .returned (.bool z) ∧ ∃ j', Hp W w' (L.set k (aRd c s j')) F := by
  subst hl hz
  have := zero_any h k hk (8 * s.size - i) (by omega)
  rw [show min (8 * s.size - i) (8 * s.size - (i + 1)) = 8 * s.size - (i + 1) by omega] at this
  exact this

theorem at_succ' {L : List AObj} {k : Nat} {x y : AObj} (h : L[k]? = some x) : (y :: L)[k + 1]? = some x := by simpa using h

theorem more_nil (w : World) : Calls Try.prog 11 #[.pointer none] w fun e w' => e = .returned (.tuple #[.bool false, .int .i64 1]) ∧ w = w' := by
  go_enter Try.func11, Try.ntmps11
  go_wp2
  exact bodyPost_ret (results_tmp2 rfl _ _ _) rfl ⟨rfl, rfl⟩

set_option maxHeartbeats 1000000 in
theorem more_any {W w : World} {L : List AObj} {F : List (Nat × Obj)} (h : Hp W w L F) (k : Nat) {b : Nat} {s : ByteArray} {i : Nat} (hk : L[k]? = some (aRd b s i)) :
    Calls Try.prog 11 #[.pointer (some ⟨b, 0, none⟩)] w fun e w' => e = .returned (.tuple #[.bool (mrV s i), .int .i64 (mrE s i)]) ∧ Hp W w' L F := by
  obtain ⟨_, hs48, his⟩ := h.rd k hk
  have H := Lib.hid h; clear h
  have HK := Lib.hid hk; clear hk
  by_cases hi : 8 * s.size ≤ i
  · have e1 : mrE s i = 5 := if_pos hi
    have e2 : mrV s i = false := by unfold mrV; rw [e1]; rfl
    rw [e1, e2]
    clear e1 e2
    go_enter Try.func11, Try.ntmps11
    go_wp2_with (first | (go_at_call 35; (with_reducible refine (from_any H.out k HK.out).mono ?_); rintro e w1 ⟨c, rfl, hS⟩) | (go_at_call 37; (refine (u_end (hS.alloc (.cells #[fU c, fLeft c] 67 (0, 0))) 0 at0 hi).mono ?_); rintro e w1 ⟨rfl, hS2⟩))
    exact bodyPost_ret (results_tmp2 rfl _ _ _) rfl ⟨rfl, hS2.tail.drop⟩
  · have hi' : i < 8 * s.size := by omega
    have hb := bt_le s i
    obtain ⟨V, hV⟩ : ∃ V, V = bt s i := ⟨_, rfl⟩
    obtain ⟨z, hz⟩ : ∃ z, zR s (i + 1) = z := ⟨_, rfl⟩
    obtain ⟨l, hl⟩ : ∃ l, l = 8 * s.size - i := ⟨_, rfl⟩
    have e1 : mrE s i = if V = 0 ∧ z = true then 5 else 0 := by unfold mrE; rw [if_neg hi, ← hV, hz]
    have e2 : mrV s i = if mrE s i = 0 then (!z || decide (V = 0)) else false := by unfold mrV; rw [hz, hV]
    rw [e2, e1]
    rw [← hV] at hb
    have R := Lib.hid (And.intro hV (And.intro hz hl)); clear hV hz hl e1 e2
    have hb2 : V = 0 ∨ V = 1 := by omega
    clear hb
    rcases hb2 with rfl | rfl
    all_goals
      cases z
      all_goals
        go_enter Try.func11, Try.ntmps11
        go_wp2_with (first | (go_at_call 35; (with_reducible refine (from_any H.out k HK.out).mono ?_); rintro e w1 ⟨c, rfl, hS⟩) | (go_at_call 37; (refine (u_bit (hS.alloc (.cells #[fU c, fLeft c] 67 (0, 0))) 0 at0 R.out.1 hi').mono ?_); rintro e w2 ⟨rfl, hS2⟩; simp only [set0] at hS2; clear hS))
        have hx := hS2.drew
        obtain ⟨x0, x1⟩ := scan_cells hS2
        generalize w1.heap.size = xb at *
        have hk1 := at_succ' (y := aRd c s (i + 1)) HK.out
        go_region_held3 (fun w' => w'.cell? ⟨xb, 0, none⟩ = some (fU c) ∧ w'.cell? ⟨xb, 1, none⟩ = some (fLeft c)) (first | exact scan_cells (by assumption) | go_keep) (first | (go_at_call 25; (with_reducible refine (left_as hx (k + 1) hk1 R.out.2.2).mono ?_); rintro e w3 ⟨rfl, hx2⟩) | (go_at_call 36; (refine (zero_rest hx2 0 at0 R.out.2.2 R.out.2.1 hs48).mono ?_); rintro e w4 ⟨rfl, j', hx3⟩; simp only [set0] at hx3))
        go_wp2_with (fail)
        exact bodyPost_ret (results_tmp2 rfl _ _ _) rfl ⟨rfl, hx3.tail.drop⟩

end Go.Proofs.Ytlckjjgamnphbaa
