/- The walk of RbspExamples. -/
import Derived.Test.YtlckjjgamnphbaaTw
namespace Go.Proofs.Ytlckjjgamnphbaa
open Go.RowKit
set_option linter.unusedVariables false
set_option maxRecDepth 100000
set_option linter.unusedSimpArgs false

def xS (c : Nat) : ByteArray := [⟨#[184]⟩, ⟨#[184]⟩, ⟨#[184]⟩, ⟨#[184]⟩, ⟨#[184, 0, 0]⟩, ⟨#[184, 0]⟩, ⟨#[128]⟩, ⟨#[0, 128]⟩, ⟨#[128]⟩, ⟨#[0]⟩].getD c ⟨#[]⟩
def xN (c : Nat) : Nat := [4, 0, 2, 3, 4, 4, 0, 0, 8, 0].getD c 0
def xM (c : Nat) : Bool := [false, true, true, true, false, false, false, true, false, false].getD c false
def xE (c : Nat) : Nat := [0, 0, 0, 0, 4, 4, 0, 4, 4, 0, 4, 4, 0, 4, 0, 0, 4, 4, 0, 0, 0, 0, 4, 4, 5, 5, 5, 5, 4, 4].getD c 0
def tS : Array Value := #[.string ⟨#[184]⟩, .string ⟨#[184]⟩, .string ⟨#[184]⟩, .string ⟨#[184]⟩, .string ⟨#[184, 0, 0]⟩, .string ⟨#[184, 0]⟩, .string ⟨#[128]⟩, .string ⟨#[0, 128]⟩, .string ⟨#[128]⟩, .string ⟨#[0]⟩]
def tN : Array Value := #[.int .u16 4, .int .u16 0, .int .u16 2, .int .u16 3, .int .u16 4, .int .u16 4, .int .u16 0, .int .u16 0, .int .u16 8, .int .u16 0]
def tM : Array Value := #[.bool false, .bool true, .bool true, .bool true, .bool false, .bool false, .bool false, .bool true, .bool false, .bool false]
def tE : Array Value := #[.int .i64 0, .int .i64 0, .int .i64 0, .int .i64 0, .int .i64 4, .int .i64 4, .int .i64 0, .int .i64 4, .int .i64 4, .int .i64 0, .int .i64 4, .int .i64 4, .int .i64 0, .int .i64 4, .int .i64 0, .int .i64 0, .int .i64 4, .int .i64 4, .int .i64 0, .int .i64 0, .int .i64 0, .int .i64 0, .int .i64 4, .int .i64 4, .int .i64 5, .int .i64 5, .int .i64 5, .int .i64 5, .int .i64 4, .int .i64 4]
theorem ten {P : Nat → Prop} (h0 : P 0) (h1 : P 1) (h2 : P 2) (h3 : P 3) (h4 : P 4) (h5 : P 5) (h6 : P 6) (h7 : P 7) (h8 : P 8) (h9 : P 9) {c : Nat} (hc : c < 10) : P c := by
  have : c = 0 ∨ c = 1 ∨ c = 2 ∨ c = 3 ∨ c = 4 ∨ c = 5 ∨ c = 6 ∨ c = 7 ∨ c = 8 ∨ c = 9 := by omega
  rcases this with rfl | rfl | rfl | rfl | rfl | rfl | rfl | rfl | rfl | rfl
  all_goals assumption
theorem x_tab {c : Nat} (hc : c < 10) : tS[c]? = some (.string (xS c)) ∧ tN[c]? = some (.int .u16 (xN c)) ∧ tM[c]? = some (.bool (xM c)) ∧ tE[c * 3]? = some (.int .i64 (xE (c * 3))) ∧ tE[c * 3 + 1]? = some (.int .i64 (xE (c * 3 + 1))) ∧ tE[c * 3 + 2]? = some (.int .i64 (xE (c * 3 + 2))) := by
  refine ten (P := fun c => tS[c]? = some (.string (xS c)) ∧ tN[c]? = some (.int .u16 (xN c)) ∧ tM[c]? = some (.bool (xM c)) ∧ tE[c * 3]? = some (.int .i64 (xE (c * 3))) ∧ tE[c * 3 + 1]? = some (.int .i64 (xE (c * 3 + 1))) ∧ tE[c * 3 + 2]? = some (.int .i64 (xE (c * 3 + 2)))) ?_ ?_ ?_ ?_ ?_ ?_ ?_ ?_ ?_ ?_ hc <;> exact ⟨rfl, rfl, rfl, rfl, rfl, rfl⟩
theorem x_law {c : Nat} (hc : c < 10) : (xS c).size ≤ 2 ^ 48 ∧ (xN c : Int) ≤ 65535 ∧ (xN c : Int) % (8 * ((xS c).size : Int) + 1) = (xN c : Int) ∧ (mrV (xS c) (xN c) = xM c ∧ mrE (xS c) (xN c) = xE (c * 3)) ∧ enE (xS c) (xN c) false = xE (c * 3 + 1) ∧ enE (xS c) (xN c) true = xE (c * 3 + 2) := by
  refine ten (P := fun c => (xS c).size ≤ 2 ^ 48 ∧ (xN c : Int) ≤ 65535 ∧ (xN c : Int) % (8 * ((xS c).size : Int) + 1) = (xN c : Int) ∧ (mrV (xS c) (xN c) = xM c ∧ mrE (xS c) (xN c) = xE (c * 3)) ∧ enE (xS c) (xN c) false = xE (c * 3 + 1) ∧ enE (xS c) (xN c) true = xE (c * 3 + 2)) ?_ ?_ ?_ ?_ ?_ ?_ ?_ ?_ ?_ ?_ hc <;> decide +kernel
theorem x_cells {W w : World} {L : List AObj} {g1 g2 g3 g4 c : Nat} (h : Hp W w L [(g4, .cells tE 27 (0, 0)), (g3, .cells tM 4 (0, 0)), (g2, .cells tN 23 (0, 0)), (g1, .cells tS 9 (0, 0))]) (hc : c < 10) : w.cell? ⟨g1, c, none⟩ = some (.string (xS c)) ∧ w.cell? ⟨g2, c, none⟩ = some (.int .u16 (xN c)) ∧ w.cell? ⟨g3, c, none⟩ = some (.bool (xM c)) ∧ w.cell? ⟨g4, c * 3, none⟩ = some (.int .i64 (xE (c * 3))) ∧ w.cell? ⟨g4, c * 3 + 1, none⟩ = some (.int .i64 (xE (c * 3 + 1))) ∧ w.cell? ⟨g4, c * 3 + 2, none⟩ = some (.int .i64 (xE (c * 3 + 2))) := by
  obtain ⟨a, b, d, e, f, g⟩ := x_tab hc
  have m4 := fun (x : Nat × Obj) F => List.mem_cons_self (a := x) (l := F)
  exact ⟨cell_in h (.tail _ (.tail _ (.tail _ (.head _)))) a, cell_in h (.tail _ (.tail _ (.head _))) b, cell_in h (.tail _ (.head _)) d, cell_in h (.head _) e, cell_in h (.head _) f, cell_in h (.head _) g⟩
theorem alloc4 {W w : World} {L : List AObj} {F : List (Nat × Obj)} (h : Hp W w L F) (A B C D : Obj) : Hp W ((((w.alloc A).alloc B).alloc C).alloc D) L ((w.heap.size + 1 + 1 + 1, D) :: (w.heap.size + 1 + 1, C) :: (w.heap.size + 1, B) :: (w.heap.size, A) :: F) := by
  have := (((h.alloc A).alloc B).alloc C).alloc D
  simpa using this

set_option maxHeartbeats 4000000 in
theorem texamples_walk (W : World) : Calls Try.prog 3 #[] W fun e w' => e = .returned (.bool true) ∧ Below W.heap.size W w' := by
  have hS := Hp.start W
  have P0 := Lib.hid (show pE 3 (Int.toNat 5) = 0 ∧ pB [] 3 (Int.toNat 5) = [true, false, true] by decide +kernel)
  have P1 := Lib.hid (show [true, false, true] ++ trB [true, false, true].length = [true, false, true, true, false, false, false, false] by decide +kernel)
  have P2 := Lib.hid (show ([] : List Bool) ++ trB ([] : List Bool).length = [true, false, false, false, false, false, false, false] by decide +kernel)
  have P3 := Lib.hid (show pstr [true, false, true, true, false, false, false, false] = ⟨#[176]⟩ by decide +kernel)
  have P4 := Lib.hid (show pstr [true, false, false, false, false, false, false, false] = ⟨#[128]⟩ by decide +kernel)
  go_enter Try.func3, Try.ntmps3
  go_wp2_with (fail)
  have a4 := alloc4 hS (.cells #[.string ⟨#[184]⟩, .string ⟨#[184]⟩, .string ⟨#[184]⟩, .string ⟨#[184]⟩, .string ⟨#[184, 0, 0]⟩, .string ⟨#[184, 0]⟩, .string ⟨#[128]⟩, .string ⟨#[0, 128]⟩, .string ⟨#[128]⟩, .string ⟨#[0]⟩] 9 (0, 0)) (.cells #[.int .u16 4, .int .u16 0, .int .u16 2, .int .u16 3, .int .u16 4, .int .u16 4, .int .u16 0, .int .u16 0, .int .u16 8, .int .u16 0] 23 (0, 0)) (.cells #[.bool false, .bool true, .bool true, .bool true, .bool false, .bool false, .bool false, .bool true, .bool false, .bool false] 4 (0, 0)) (.cells #[.int .i64 0, .int .i64 0, .int .i64 0, .int .i64 0, .int .i64 4, .int .i64 4, .int .i64 0, .int .i64 4, .int .i64 4, .int .i64 0, .int .i64 4, .int .i64 4, .int .i64 0, .int .i64 4, .int .i64 0, .int .i64 0, .int .i64 4, .int .i64 4, .int .i64 0, .int .i64 0, .int .i64 0, .int .i64 0, .int .i64 4, .int .i64 4, .int .i64 5, .int .i64 5, .int .i64 5, .int .i64 5, .int .i64 4, .int .i64 4] 27 (0, 0))
  obtain ⟨w2, hw2⟩ : ∃ x, x = ((((W.alloc (.cells #[.string ⟨#[184]⟩, .string ⟨#[184]⟩, .string ⟨#[184]⟩, .string ⟨#[184]⟩, .string ⟨#[184, 0, 0]⟩, .string ⟨#[184, 0]⟩, .string ⟨#[128]⟩, .string ⟨#[0, 128]⟩, .string ⟨#[128]⟩, .string ⟨#[0]⟩] 9 (0, 0))).alloc (.cells #[.int .u16 4, .int .u16 0, .int .u16 2, .int .u16 3, .int .u16 4, .int .u16 4, .int .u16 0, .int .u16 0, .int .u16 8, .int .u16 0] 23 (0, 0))).alloc (.cells #[.bool false, .bool true, .bool true, .bool true, .bool false, .bool false, .bool false, .bool true, .bool false, .bool false] 4 (0, 0))).alloc (.cells #[.int .i64 0, .int .i64 0, .int .i64 0, .int .i64 0, .int .i64 4, .int .i64 4, .int .i64 0, .int .i64 4, .int .i64 4, .int .i64 0, .int .i64 4, .int .i64 4, .int .i64 0, .int .i64 4, .int .i64 0, .int .i64 0, .int .i64 4, .int .i64 4, .int .i64 0, .int .i64 0, .int .i64 0, .int .i64 0, .int .i64 4, .int .i64 4, .int .i64 5, .int .i64 5, .int .i64 5, .int .i64 5, .int .i64 4, .int .i64 4] 27 (0, 0))) := ⟨_, rfl⟩
  rw [← hw2] at a4 ⊢
  clear hw2
  have a5 : Hp W w2 [] [(W.heap.size + 1 + 1 + 1, .cells tE 27 (0, 0)), (W.heap.size + 1 + 1, .cells tM 4 (0, 0)), (W.heap.size + 1, .cells tN 23 (0, 0)), (W.heap.size, .cells tS 9 (0, 0))] := a4
  have HA := Lib.hid a5
  clear a4 a5 hS
  go_loopw [5] (fun i wr => ∃ c : Nat, i = .int .i64 c ∧ c ≤ 10 ∧ Hp W wr [] [(W.heap.size + 1 + 1 + 1, .cells tE 27 (0, 0)), (W.heap.size + 1 + 1, .cells tM 4 (0, 0)), (W.heap.size + 1, .cells tN 23 (0, 0)), (W.heap.size, .cells tS 9 (0, 0))]) (fun i _ => 10 - (intOf i).toNat)
  case atStart => exact ⟨0, rfl, by omega, HA.out⟩
  case round =>
    obtain ⟨c, rfl, hc, g⟩ := hrel
    by_cases hlt : c < 10
    · have hlt' : (c : Int) < 10 := by omega
      obtain ⟨a1, a2, a3, a4, a5, a6⟩ := x_law hlt
      obtain ⟨j1, hj1⟩ : ∃ j, enI (xS c) (xN c) false = j := ⟨_, rfl⟩
      obtain ⟨j2, hj2⟩ : ∃ j, enI (xS c) (xN c) true = j := ⟨_, rfl⟩
      have M := Lib.hid a4
      have E1 := Lib.hid (And.intro a5 hj1)
      have E2 := Lib.hid (And.intro a6 hj2)
      have HL := Lib.hid hlt
      clear hlt a4 a5 a6 hj1 hj2
      go_wp2_with (fail)
      have g0 := g.drew
      clear g
      have g := g0
      clear g0
      obtain ⟨c1, c2, c3, c4, c5, c6⟩ := x_cells g HL.out
      go_region_held3 (fun w' => w'.cell? ⟨W.heap.size, c, none⟩ = some (.string (xS c)) ∧ w'.cell? ⟨W.heap.size + 1, c, none⟩ = some (.int .u16 (xN c))) (first | exact ⟨(x_cells (by assumption) HL.out).1, (x_cells (by assumption) HL.out).2.1⟩ | go_keep) (first | (go_at_call 9; (with_reducible refine (lat_as g _ a1 _ (by omega) a2 a3).mono ?_); rintro e w1 ⟨rb, qb, rfl, q1⟩; clear g))
      go_wp2_with (first | (go_at_call 10; (with_reducible refine (copy_any q1 1 at1).mono ?_); rintro e w1 ⟨cb, rfl, q2⟩; clear q1) | (go_at_call 11; (with_reducible refine (more_as q2 2 at2 M.out).mono ?_); rintro e w1 ⟨rfl, q3⟩; clear q2))
      have z0 := q3.drew
      clear q3
      obtain ⟨c1, c2, c3, c4, c5, c6⟩ := x_cells z0 HL.out
      go_region_held3 (fun w' => w'.cell? ⟨W.heap.size + 1 + 1, c, none⟩ = some (.bool (xM c)) ∧ w'.cell? ⟨W.heap.size + 1 + 1 + 1, c * 3, none⟩ = some (.int .i64 (xE (c * 3))) ∧ w'.cell? ⟨W.heap.size + 1 + 1 + 1, c * 3 + 1, none⟩ = some (.int .i64 (xE (c * 3 + 1))) ∧ w'.cell? ⟨W.heap.size + 1 + 1 + 1, c * 3 + 2, none⟩ = some (.int .i64 (xE (c * 3 + 2)))) (first | exact (x_cells (by assumption) HL.out).2.2 | go_keep) (first | (go_at_call 12; (with_reducible refine (end_as z0 2 at2 false E1.out).mono ?_); rintro e w1 ⟨rfl, z1⟩; simp only [set2] at z1 ⊢; clear z0) | (go_at_call 12; (with_reducible refine (end_as z1 0 at0 true E2.out).mono ?_); rintro e w1 ⟨rfl, z2⟩; simp only [set0] at z2 ⊢; clear z1))
      go_wp2_with (fail)
      go_roundw
      case rel => exact ⟨c + 1, by go_num, by have := HL.out; omega, z2.tail.tail.tail⟩
      case measure => have := HL.out; simp [intOf]; omega
    · obtain rfl : c = 10 := by omega
      go_wp2_with (first | (go_at_call 13; (with_reducible refine (write_any g).mono ?_); rintro e w1 ⟨wb, rfl, f1⟩; clear g) | (go_at_call 13; (with_reducible refine (write_any f1).mono ?_); rintro e w1 ⟨vb, rfl, f2⟩; clear f1) | (go_at_call 14; (with_reducible refine (put_as f2 1 at1 (by decide) 3 5 (by decide) (by decide) P0.out).mono ?_); rintro e w1 ⟨rfl, f3⟩; simp only [set1] at f3 ⊢; clear f2) | (go_at_call 15; (with_reducible refine (trail_as f3 1 at1 (by decide) P1.out).mono ?_); rintro e w1 ⟨rfl, f4⟩; simp only [set1] at f4 ⊢; clear f3) | (go_at_call 15; (with_reducible refine (trail_as f4 0 at0 (by decide) P2.out).mono ?_); rintro e w1 ⟨rfl, f5⟩; simp only [set0] at f5 ⊢; clear f4) | (go_at_call 11; (with_reducible refine (more_nil _).mono ?_); rintro e w1 ⟨rfl, rfl⟩) | (go_at_call 16; (with_reducible refine (bytes_eq f5 1 at1 (by decide) P3.out).mono ?_); rintro e w1 ⟨rfl, f6⟩; clear f5) | (go_at_call 16; (with_reducible refine (bytes_eq f6 0 at0 (by decide) P4.out).mono ?_); rintro e w1 ⟨rfl, f7⟩; clear f6) | (go_at_call 12; (with_reducible refine (end_nil _ _).mono ?_); rintro e w1 ⟨rfl, rfl⟩) | (go_at_call 15; (with_reducible refine (trail_nil _).mono ?_); rintro e w1 ⟨rfl, rfl⟩) | (go_at_call 17; (with_reducible refine (tknown_any f7).mono ?_); rintro e w1 ⟨rfl, f8⟩; clear f7))
      exact bodyPost_ret (results_tmp rfl _ _ _) rfl ⟨rfl, f8.below⟩

end Go.Proofs.Ytlckjjgamnphbaa
