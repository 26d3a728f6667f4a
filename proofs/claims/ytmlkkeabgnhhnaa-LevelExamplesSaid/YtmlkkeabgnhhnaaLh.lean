/- The walk of LevelExamples. -/
import Derived.Test.YtmlkkeabgnhhnaaLe
import Derived.Deep.RegionHeld3
namespace Go.Proofs.Ytmlkkeabgnhhnaa
open Go.RowKit
set_option linter.unusedVariables false
set_option maxRecDepth 100000
set_option linter.unusedSimpArgs false

def xT (c : Nat) : Nat := [2, 1, 1, 1, 1, 1, 1, 1, 11, 11, 11].getD c 0
def xO (c : Nat) : Nat := [1, 0, 0, 0, 0, 0, 0, 0, 0, 0, 0].getD c 0
def xV (c : Nat) : Int := [-3, 2, -2, 3, 9, 10, -10, 17, 2, -2, 3].getD c 0
def xW (c : Nat) : ByteArray := [⟨#[48, 48, 48, 49]⟩, ⟨#[49]⟩, ⟨#[48, 49]⟩, ⟨#[48, 48, 49]⟩, zs 14 ++ ⟨#[49, 48, 48, 48, 48]⟩, zs 14 ++ ⟨#[49, 48, 48, 49, 48]⟩, zs 14 ++ ⟨#[49, 48, 48, 49, 49]⟩, zs 15 ++ ⟨#[49]⟩ ++ zs 12, ⟨#[49, 48]⟩, ⟨#[49, 49]⟩, ⟨#[48, 49, 48]⟩].getD c ⟨#[]⟩
def xB (c : Nat) : List Bool := lpB [] (k0 (xT c) (xO c)) (xT c - xO c) (s0 (xO c)) (xV c)
def tP : Array Value := #[.int .i64 2, .int .i64 1, .int .i64 1, .int .i64 0, .int .i64 1, .int .i64 0, .int .i64 1, .int .i64 0, .int .i64 1, .int .i64 0, .int .i64 1, .int .i64 0, .int .i64 1, .int .i64 0, .int .i64 1, .int .i64 0, .int .i64 11, .int .i64 0, .int .i64 11, .int .i64 0, .int .i64 11, .int .i64 0]
def tL : Array Value := #[.int .i64 (-3), .int .i64 2, .int .i64 (-2), .int .i64 3, .int .i64 9, .int .i64 10, .int .i64 (-10), .int .i64 17, .int .i64 2, .int .i64 (-2), .int .i64 3]
def tW : Array Value := #[.string (⟨#[48, 48, 48, 49]⟩), .string (⟨#[49]⟩), .string (⟨#[48, 49]⟩), .string (⟨#[48, 48, 49]⟩), .string (zs 14 ++ ⟨#[49, 48, 48, 48, 48]⟩), .string (zs 14 ++ ⟨#[49, 48, 48, 49, 48]⟩), .string (zs 14 ++ ⟨#[49, 48, 48, 49, 49]⟩), .string (zs 15 ++ ⟨#[49]⟩ ++ zs 12), .string (⟨#[49, 48]⟩), .string (⟨#[49, 49]⟩), .string (⟨#[48, 49, 48]⟩)]
theorem eleven {P : Nat → Prop} (h0 : P 0) (h1 : P 1) (h2 : P 2) (h3 : P 3) (h4 : P 4) (h5 : P 5) (h6 : P 6) (h7 : P 7) (h8 : P 8) (h9 : P 9) (h10 : P 10) {c : Nat} (hc : c < 11) : P c := by
  have : c = 0 ∨ c = 1 ∨ c = 2 ∨ c = 3 ∨ c = 4 ∨ c = 5 ∨ c = 6 ∨ c = 7 ∨ c = 8 ∨ c = 9 ∨ c = 10 := by omega
  rcases this with rfl | rfl | rfl | rfl | rfl | rfl | rfl | rfl | rfl | rfl | rfl
  all_goals assumption
theorem x_tab {c : Nat} (hc : c < 11) : tP[c * 2]? = some (.int .i64 (xT c)) ∧ tP[c * 2 + 1]? = some (.int .i64 (xO c)) ∧ tL[c]? = some (.int .i64 (xV c)) ∧ tW[c]? = some (.string (xW c)) := by
  refine eleven (P := fun c => tP[c * 2]? = some (.int .i64 (xT c)) ∧ tP[c * 2 + 1]? = some (.int .i64 (xO c)) ∧ tL[c]? = some (.int .i64 (xV c)) ∧ tW[c]? = some (.string (xW c))) ?_ ?_ ?_ ?_ ?_ ?_ ?_ ?_ ?_ ?_ ?_ hc <;> exact ⟨rfl, rfl, rfl, rfl⟩
theorem x_law {c : Nat} (hc : c < 11) : (xT c ≤ 16 ∧ xO c ≤ 3 ∧ xO c ≤ xT c) ∧ (-9223372036854775808 ≤ xV c ∧ xV c < 9223372036854775808) ∧ lpE (k0 (xT c) (xO c)) (xT c - xO c) (s0 (xO c)) (xV c) = 0 ∧ strB (xB c) = xW c ∧ (xB c).length ≤ 40 ∧ lrE (k0 (xT c) (xO c)) (xT c - xO c) (pstr (xB c)) 0 = 0 ∧ lrV (k0 (xT c) (xO c)) (xT c - xO c) (s0 (xO c)) (pstr (xB c)) 0 = xV c := by
  refine eleven (P := fun c => (xT c ≤ 16 ∧ xO c ≤ 3 ∧ xO c ≤ xT c) ∧ (-9223372036854775808 ≤ xV c ∧ xV c < 9223372036854775808) ∧ lpE (k0 (xT c) (xO c)) (xT c - xO c) (s0 (xO c)) (xV c) = 0 ∧ strB (xB c) = xW c ∧ (xB c).length ≤ 40 ∧ lrE (k0 (xT c) (xO c)) (xT c - xO c) (pstr (xB c)) 0 = 0 ∧ lrV (k0 (xT c) (xO c)) (xT c - xO c) (s0 (xO c)) (pstr (xB c)) 0 = xV c) ?_ ?_ ?_ ?_ ?_ ?_ ?_ ?_ ?_ ?_ ?_ hc <;> decide +kernel
theorem x_cells {W w' : World} {L : List AObj} {c : Nat} (h : Hp W w' L [(W.heap.size + 1 + 1, .cells tW 9 (0, 0)), (W.heap.size + 1, .cells tL 3 (0, 0)), (W.heap.size, .cells tP 59 (0, 0))]) (hc : c < 11) : (w'.cell? ⟨W.heap.size, c * 2, none⟩ = some (.int .i64 (xT c)) ∧ w'.cell? ⟨W.heap.size, c * 2 + 1, none⟩ = some (.int .i64 (xO c))) ∧ w'.cell? ⟨W.heap.size + 1, c, none⟩ = some (.int .i64 (xV c)) ∧ w'.cell? ⟨W.heap.size + 1 + 1, c, none⟩ = some (.string (xW c)) := by
  obtain ⟨a, b, d, e⟩ := x_tab hc
  exact ⟨⟨cell_in h (.tail _ (.tail _ (.head _))) a, cell_in h (.tail _ (.tail _ (.head _))) b⟩, cell_in h (.tail _ (.head _)) d, cell_in h (.head _) e⟩
def tE : Array Value := #[.int .i64 8, .int .i64 2, .int .i64 2, .int .i64 12, .int .i64 12, .int .i64 1, .int .i64 12]
def xE (c : Nat) : Int := [8, 2, 2, 12, 12, 1, 12].getD c 0
theorem e_tab {c : Nat} (h : c < 7) : tE[c]? = some (.int .i64 (xE c)) := by
  have : c = 0 ∨ c = 1 ∨ c = 2 ∨ c = 3 ∨ c = 4 ∨ c = 5 ∨ c = 6 := by omega
  rcases this with rfl | rfl | rfl | rfl | rfl | rfl | rfl <;> rfl
theorem at7 {a b c d e f g h : AObj} {l : List AObj} : (a :: b :: c :: d :: e :: f :: g :: h :: l)[7]? = some h := rfl
theorem set7 {a b c d e f g h x : AObj} {l : List AObj} : (a :: b :: c :: d :: e :: f :: g :: h :: l).set 7 x = a :: b :: c :: d :: e :: f :: g :: x :: l := rfl
theorem alloc3 {W w : World} {L : List AObj} {F : List (Nat × Obj)} (h : Hp W w L F) (A B C : Obj) : Hp W (((w.alloc A).alloc B).alloc C) L ((w.heap.size + 1 + 1, C) :: (w.heap.size + 1, B) :: (w.heap.size, A) :: F) := by
  have := ((h.alloc A).alloc B).alloc C
  simpa using this

set_option maxHeartbeats 4000000 in
theorem lexamples_walk (W : World) : Calls Try.prog 9 #[] W fun e w' => e = .returned (.bool true) ∧ Below W.heap.size W w' := by
  have hS := Hp.start W
  go_enter Try.func9, Try.ntmps9
  go_wp2_with (first | (go_at_call 38; (with_reducible refine (zeros_as 14 (by decide) (by decide) _).mono ?_); rintro e w1 ⟨rfl, rfl⟩) | (go_at_call 38; (with_reducible refine (zeros_as 15 (by decide) (by decide) _).mono ?_); rintro e w1 ⟨rfl, rfl⟩) | (go_at_call 38; (with_reducible refine (zeros_as 12 (by decide) (by decide) _).mono ?_); rintro e w1 ⟨rfl, rfl⟩))
  have a4 := alloc3 hS (.cells #[.int .i64 2, .int .i64 1, .int .i64 1, .int .i64 0, .int .i64 1, .int .i64 0, .int .i64 1, .int .i64 0, .int .i64 1, .int .i64 0, .int .i64 1, .int .i64 0, .int .i64 1, .int .i64 0, .int .i64 1, .int .i64 0, .int .i64 11, .int .i64 0, .int .i64 11, .int .i64 0, .int .i64 11, .int .i64 0] 59 (0, 0)) (.cells #[.int .i64 (-3), .int .i64 2, .int .i64 (-2), .int .i64 3, .int .i64 9, .int .i64 10, .int .i64 (-10), .int .i64 17, .int .i64 2, .int .i64 (-2), .int .i64 3] 3 (0, 0)) (.cells #[.string (⟨#[48, 48, 48, 49]⟩), .string (⟨#[49]⟩), .string (⟨#[48, 49]⟩), .string (⟨#[48, 48, 49]⟩), .string (zs 14 ++ ⟨#[49, 48, 48, 48, 48]⟩), .string (zs 14 ++ ⟨#[49, 48, 48, 49, 48]⟩), .string (zs 14 ++ ⟨#[49, 48, 48, 49, 49]⟩), .string (zs 15 ++ ⟨#[49]⟩ ++ zs 12), .string (⟨#[49, 48]⟩), .string (⟨#[49, 49]⟩), .string (⟨#[48, 49, 48]⟩)] 9 (0, 0))
  obtain ⟨w2, hw2⟩ : ∃ x, x = (((W.alloc (.cells #[.int .i64 2, .int .i64 1, .int .i64 1, .int .i64 0, .int .i64 1, .int .i64 0, .int .i64 1, .int .i64 0, .int .i64 1, .int .i64 0, .int .i64 1, .int .i64 0, .int .i64 1, .int .i64 0, .int .i64 1, .int .i64 0, .int .i64 11, .int .i64 0, .int .i64 11, .int .i64 0, .int .i64 11, .int .i64 0] 59 (0, 0))).alloc (.cells #[.int .i64 (-3), .int .i64 2, .int .i64 (-2), .int .i64 3, .int .i64 9, .int .i64 10, .int .i64 (-10), .int .i64 17, .int .i64 2, .int .i64 (-2), .int .i64 3] 3 (0, 0))).alloc (.cells #[.string (⟨#[48, 48, 48, 49]⟩), .string (⟨#[49]⟩), .string (⟨#[48, 49]⟩), .string (⟨#[48, 48, 49]⟩), .string (zs 14 ++ ⟨#[49, 48, 48, 48, 48]⟩), .string (zs 14 ++ ⟨#[49, 48, 48, 49, 48]⟩), .string (zs 14 ++ ⟨#[49, 48, 48, 49, 49]⟩), .string (zs 15 ++ ⟨#[49]⟩ ++ zs 12), .string (⟨#[49, 48]⟩), .string (⟨#[49, 49]⟩), .string (⟨#[48, 49, 48]⟩)] 9 (0, 0))) := ⟨_, rfl⟩
  rw [← hw2] at a4 ⊢
  clear hw2
  have a5 : Hp W w2 [] [(W.heap.size + 1 + 1, .cells tW 9 (0, 0)), (W.heap.size + 1, .cells tL 3 (0, 0)), (W.heap.size, .cells tP 59 (0, 0))] := a4
  have HA := Lib.hid a5
  clear a4 a5 hS
  go_loopw [4] (fun i wr => ∃ c : Nat, i = .int .i64 c ∧ c ≤ 11 ∧ Hp W wr [] [(W.heap.size + 1 + 1, .cells tW 9 (0, 0)), (W.heap.size + 1, .cells tL 3 (0, 0)), (W.heap.size, .cells tP 59 (0, 0))]) (fun i _ => 11 - (intOf i).toNat)
  case atStart => exact ⟨0, rfl, by omega, HA.out⟩
  case round =>
    obtain ⟨c, rfl, hc, g⟩ := hrel
    by_cases hlt : c < 11
    · have hlt' : (c : Int) < 11 := by omega
      obtain ⟨l1, l2, l3, l4, l5, l6, l7⟩ := x_law hlt
      have HL := Lib.hid hlt
      have hb0 : k0 (xT c) (xO c) ≤ 6 ∧ xT c - xO c ≤ 16 ∧ (s0 (xO c) = 0 ∨ s0 (xO c) = 2) ∧ ([] : List Bool).length ≤ 2 ^ 39 := ⟨by unfold k0; split <;> omega, by omega, by unfold s0; split <;> omega, by decide⟩
      have hb1 : k0 (xT c) (xO c) ≤ 6 ∧ xT c - xO c ≤ 16 ∧ s0 (xO c) ≤ 2 := ⟨hb0.1, hb0.2.1, by unfold s0; split <;> omega⟩
      obtain ⟨K, hK⟩ : ∃ x, k0 (xT c) (xO c) = x := ⟨_, rfl⟩
      obtain ⟨l, hl⟩ : ∃ x, xT c - xO c = x := ⟨_, rfl⟩
      obtain ⟨s, hs⟩ : ∃ x, s0 (xO c) = x := ⟨_, rfl⟩
      obtain ⟨K1, hK1⟩ : ∃ x, lpK K l s (xV c) = x := ⟨_, rfl⟩
      obtain ⟨l1', hl1⟩ : ∃ x, lpL K l s (xV c) = x := ⟨_, rfl⟩
      obtain ⟨s1, hs1⟩ : ∃ x, lpS K l s (xV c) = x := ⟨_, rfl⟩
      obtain ⟨B, hB⟩ : ∃ x, xB c = x := ⟨_, rfl⟩
      obtain ⟨P, hP⟩ : ∃ x, pstr B = x := ⟨_, rfl⟩
      have hB' : lpB [] K l s (xV c) = B := by rw [← hB, ← hK, ← hl, ← hs]; rfl
      rw [hK, hl, hs] at l3 l7 hb0 hb1
      rw [hK, hl] at l6
      rw [hB] at l4 l5 l6 l7
      rw [hP] at l6 l7
      obtain ⟨j2, hj2⟩ : ∃ x, lrI K l P 0 = x := ⟨_, rfl⟩
      obtain ⟨K2, hK2⟩ : ∃ x, lrK K l s P 0 = x := ⟨_, rfl⟩
      obtain ⟨l2', hl2⟩ : ∃ x, lrL K l P 0 = x := ⟨_, rfl⟩
      obtain ⟨s2, hs2⟩ : ∃ x, lrS K l s P 0 = x := ⟨_, rfl⟩
      have hPs : P.size ≤ 2 ^ 48 := by rw [← hP, pstr_size]; omega
      have hB41 : B.length ≤ 2 ^ 41 := by omega
      have ST := Lib.hid (And.intro hK (And.intro hl hs))
      have A1 := Lib.hid (And.intro l3 (And.intro hB' (And.intro hK1 (And.intro hl1 hs1))))
      have A2 := Lib.hid (And.intro l6 (And.intro l7 (And.intro hj2 (And.intro hK2 (And.intro hl2 hs2)))))
      have SW := Lib.hid l4
      have SP := Lib.hid hP
      have HV := Lib.hid l2
      clear hlt l2 l3 l4 l6 l7 hK hl hs hK1 hl1 hs1 hB hP hB' hj2 hK2 hl2 hs2
      go_wp2_with (fail)
      have x0 := g.drew
      clear g
      obtain ⟨⟨c1, c2⟩, c3, c4⟩ := x_cells x0 HL.out
      go_region_held3 (fun w' => w'.cell? ⟨W.heap.size, c * 2, none⟩ = some (.int .i64 (xT c)) ∧ w'.cell? ⟨W.heap.size, c * 2 + 1, none⟩ = some (.int .i64 (xO c))) (first | exact (x_cells (by assumption) HL.out).1 | go_keep) (first | (go_at_call 24; (with_reducible refine (made_any x0 (xT c) (xO c) rfl rfl l1.1 l1.2.1 l1.2.2 ST.out).mono ?_); rintro e w1 ⟨cb, rfl, x1⟩))
      go_wp2_with (first | (go_at_call 13; (with_reducible refine (write_any x1).mono ?_); rintro e w1 ⟨wb, rfl, x2⟩; clear x1))
      have y0 := x2.drew
      clear x2
      obtain ⟨⟨c1, c2⟩, c3, c4⟩ := x_cells y0 HL.out
      go_region_held3 (fun w' => w'.cell? ⟨W.heap.size + 1, c, none⟩ = some (.int .i64 (xV c)) ∧ w'.cell? ⟨W.heap.size + 1 + 1, c, none⟩ = some (.string (xW c))) (first | exact (x_cells (by assumption) HL.out).2 | go_keep) (first | (go_at_call 15; (with_reducible refine (lput_as y0 1 0 (by decide) at1 at0 hb0 _ HV.out.1 HV.out.2 A1.out).mono ?_); rintro e w2 ⟨rfl, y1⟩; simp only [set0, set1] at y1) | (go_at_call 21; (with_reducible refine (wbits_eq y1 0 at0 hB41 SW.out).mono ?_); rintro e w1 ⟨rfl, y2⟩))
      go_wp2_with (fail)
      have z0 := y2.drew
      clear y0 y1 y2
      obtain ⟨⟨c1, c2⟩, c3, c4⟩ := x_cells z0 HL.out
      go_region_held3 (fun w' => w'.cell? ⟨W.heap.size, c * 2, none⟩ = some (.int .i64 (xT c)) ∧ w'.cell? ⟨W.heap.size, c * 2 + 1, none⟩ = some (.int .i64 (xO c))) (first | exact (x_cells (by assumption) HL.out).1 | go_keep) (first | (go_at_call 24; (with_reducible refine (made_any z0 (xT c) (xO c) rfl rfl l1.1 l1.2.1 l1.2.2 ST.out).mono ?_); rintro e w1 ⟨db, rfl, z1⟩))
      go_wp2_with (first | (go_at_call 34; (with_reducible refine (bytes_eq z1 1 at1 hB41 SP.out).mono ?_); rintro e w1 ⟨rfl, z2⟩; clear z1) | (go_at_call 28; (with_reducible refine (read_any z2 P hPs).mono ?_); rintro e w1 ⟨rb, rfl, z3⟩; clear z2) | (go_at_call 30; (with_reducible refine (lread_as z3 1 0 (by decide) at1 at0 hb1 A2.out).mono ?_); rintro e w1 ⟨rfl, z4⟩; simp only [set0, set1] at z4; obtain ⟨⟨e1, e2⟩, e3, e4⟩ := x_cells z4 HL.out; clear z3))
      go_roundw
      case rel => exact ⟨c + 1, by go_num, by have := HL.out; omega, z4.tail.tail.tail.tail⟩
      case measure => have := HL.out; simp [intOf]; omega
    · obtain rfl : c = 11 := by omega
      have P0 := Lib.hid (show lpE 0 0 0 (5) = 8 ∧ lpB [] 0 0 0 (5) = [] ∧ lpK 0 0 0 (5) = 0 ∧ lpL 0 0 0 (5) = 0 ∧ lpS 0 0 0 (5) = 0 by decide +kernel)
      have P1 := Lib.hid (show lpE 0 1 2 (1) = 2 ∧ lpB [] 0 1 2 (1) = [] ∧ lpK 0 1 2 (1) = 0 ∧ lpL 0 1 2 (1) = 1 ∧ lpS 0 1 2 (1) = 2 by decide +kernel)
      have P2 := Lib.hid (show lpE 0 1 2 (0) = 2 ∧ lpB [] 0 1 2 (0) = [] ∧ lpK 0 1 2 (0) = 0 ∧ lpL 0 1 2 (0) = 1 ∧ lpS 0 1 2 (0) = 2 by decide +kernel)
      have P3 := Lib.hid (show lpE 0 1 2 (2065) = 12 ∧ lpB [] 0 1 2 (2065) = [] ∧ lpK 0 1 2 (2065) = 0 ∧ lpL 0 1 2 (2065) = 1 ∧ lpS 0 1 2 (2065) = 2 by decide +kernel)
      have P4 := Lib.hid (show lpE 0 1 2 (-2065) = 12 ∧ lpB [] 0 1 2 (-2065) = [] ∧ lpK 0 1 2 (-2065) = 0 ∧ lpL 0 1 2 (-2065) = 1 ∧ lpS 0 1 2 (-2065) = 2 by decide +kernel)
      have P6 := Lib.hid (show lpE 0 1 2 (-9223372036854775808) = 12 ∧ lpB [] 0 1 2 (-9223372036854775808) = [] ∧ lpK 0 1 2 (-9223372036854775808) = 0 ∧ lpL 0 1 2 (-9223372036854775808) = 1 ∧ lpS 0 1 2 (-9223372036854775808) = 2 by decide +kernel)
      have Q0 := Lib.hid (show lrE 0 1 ⟨#[0, 0]⟩ 0 = 4 ∧ lrV 0 1 2 ⟨#[0, 0]⟩ 0 = 0 ∧ lrI 0 1 ⟨#[0, 0]⟩ 0 = 0 ∧ lrK 0 1 2 ⟨#[0, 0]⟩ 0 = 0 ∧ lrL 0 1 ⟨#[0, 0]⟩ 0 = 1 ∧ lrS 0 1 2 ⟨#[0, 0]⟩ 0 = 2 by decide +kernel)
      have Q1 := Lib.hid (show lrE 0 1 ⟨#[0]⟩ 0 = 5 ∧ lrV 0 1 2 ⟨#[0]⟩ 0 = 0 ∧ lrI 0 1 ⟨#[0]⟩ 0 = 0 ∧ lrK 0 1 2 ⟨#[0]⟩ 0 = 0 ∧ lrL 0 1 ⟨#[0]⟩ 0 = 1 ∧ lrS 0 1 2 ⟨#[0]⟩ 0 = 2 by decide +kernel)

      go_wp2_with (first | (go_at_call 24; (with_reducible refine (made_any g 3 3 (by decide) (by decide) (by decide) (by decide) (by decide) (K := 0) (l := 0) (s := 0) (by decide)).mono ?_); rintro e w1 ⟨v0, rfl, f1⟩; clear g) | (go_at_call 24; (with_reducible refine (made_any f1 1 0 (by decide) (by decide) (by decide) (by decide) (by decide) (K := 0) (l := 1) (s := 2) (by decide)).mono ?_); rintro e w1 ⟨v1, rfl, f2⟩; clear f1) | (go_at_call 24; (with_reducible refine (made_any f2 4 3 (by decide) (by decide) (by decide) (by decide) (by decide) (K := 0) (l := 1) (s := 0) (by decide)).mono ?_); rintro e w1 ⟨v2, rfl, f3⟩; clear f2) | (go_at_call 24; (with_reducible refine (made_any f3 11 0 (by decide) (by decide) (by decide) (by decide) (by decide) (K := 1) (l := 11) (s := 2) (by decide)).mono ?_); rintro e w1 ⟨v3, rfl, f4⟩; clear f3) | (go_at_call 13; (with_reducible refine (write_any f4).mono ?_); rintro e w1 ⟨wb, rfl, f5⟩; clear f4) | (go_at_call 15; (with_reducible refine (lput_as f5 4 0 (by decide) at4 at0 (by decide) (5) (by decide) (by decide) P0.out).mono ?_); rintro e w1 ⟨rfl, f6⟩; simp only [set0, set4] at f6; clear f5) | (go_at_call 15; (with_reducible refine (lput_as f6 3 0 (by decide) at3 at0 (by decide) (1) (by decide) (by decide) P1.out).mono ?_); rintro e w1 ⟨rfl, f7⟩; simp only [set0, set3] at f7; clear f6) | (go_at_call 15; (with_reducible refine (lput_as f7 3 0 (by decide) at3 at0 (by decide) (0) (by decide) (by decide) P2.out).mono ?_); rintro e w1 ⟨rfl, f8⟩; simp only [set0, set3] at f8; clear f7) | (go_at_call 15; (with_reducible refine (lput_as f8 3 0 (by decide) at3 at0 (by decide) (2065) (by decide) (by decide) P3.out).mono ?_); rintro e w1 ⟨rfl, f9⟩; simp only [set0, set3] at f9; clear f8) | (go_at_call 15; (with_reducible refine (lput_as f9 3 0 (by decide) at3 at0 (by decide) (-2065) (by decide) (by decide) P4.out).mono ?_); rintro e w1 ⟨rfl, f10⟩; simp only [set0, set3] at f10; clear f9) | (go_at_call 15; (with_reducible refine (lput_nilw _ _ _).mono ?_); rintro e w1 ⟨rfl, rfl⟩) | (go_at_call 15; (with_reducible refine (lput_as f10 3 0 (by decide) at3 at0 (by decide) (-9223372036854775808) (by decide) (by decide) P6.out).mono ?_); rintro e w1 ⟨rfl, f11⟩; simp only [set0, set3] at f11; clear f10))
      have a4 := (f11.alloc (.cells #[.int .i64 8, .int .i64 2, .int .i64 2, .int .i64 12, .int .i64 12, .int .i64 1, .int .i64 12] 25 (0, 0))).alloc (.cells #[.int .i64 8, .int .i64 2, .int .i64 2, .int .i64 12, .int .i64 12, .int .i64 1, .int .i64 12] 25 (0, 0))
      obtain ⟨w2, hw2⟩ : ∃ x, x = (w1.alloc (.cells #[.int .i64 8, .int .i64 2, .int .i64 2, .int .i64 12, .int .i64 12, .int .i64 1, .int .i64 12] 25 (0, 0))).alloc (.cells #[.int .i64 8, .int .i64 2, .int .i64 2, .int .i64 12, .int .i64 12, .int .i64 1, .int .i64 12] 25 (0, 0)) := ⟨_, rfl⟩
      have hsz : (w1.alloc (.cells #[.int .i64 8, .int .i64 2, .int .i64 2, .int .i64 12, .int .i64 12, .int .i64 1, .int .i64 12] 25 (0, 0))).heap.size = w1.heap.size + 1 := by simp
      rw [hsz] at a4
      rw [← hw2] at a4 ⊢
      clear hw2 hsz
      generalize w1.heap.size = gg at *
      have a5 : Hp W w2 [aWr wb [], aCo v3 1 11 2, aCo v2 0 1 0, aCo v1 0 1 2, aCo v0 0 0 0] ((gg + 1, .cells tE 25 (0, 0)) :: (gg, .cells tE 25 (0, 0)) :: [(W.heap.size + 1 + 1, .cells tW 9 (0, 0)), (W.heap.size + 1, .cells tL 3 (0, 0)), (W.heap.size, .cells tP 59 (0, 0))]) := a4
      have HB := Lib.hid a5
      clear a4 a5 f11
      go_loopw [17] (fun i wr => ∃ c : Nat, i = .int .i64 c ∧ c ≤ 7 ∧ Hp W wr [aWr wb [], aCo v3 1 11 2, aCo v2 0 1 0, aCo v1 0 1 2, aCo v0 0 0 0] ((gg + 1, .cells tE 25 (0, 0)) :: (gg, .cells tE 25 (0, 0)) :: [(W.heap.size + 1 + 1, .cells tW 9 (0, 0)), (W.heap.size + 1, .cells tL 3 (0, 0)), (W.heap.size, .cells tP 59 (0, 0))])) (fun i _ => 7 - (intOf i).toNat)
      case atStart => exact ⟨0, rfl, by omega, HB.out⟩
      case round =>
        obtain ⟨c, rfl, hc, q⟩ := hrel
        by_cases hlt : c < 7
        · have e0 := e_tab hlt
          have c1 := cell_in q (.head _) e0
          have c2 := cell_in q (.tail _ (.head _)) e0
          have hlt' : (c : Int) < 7 := by omega
          have QH := Lib.hid q
          have HL := Lib.hid hlt
          clear q hlt e0
          go_wp2_with (fail)
          go_quiet (fail)
          go_wp2_with (fail)
          go_roundw
          case rel => exact ⟨c + 1, by go_num, by have := HL.out; omega, QH.out.drewN _⟩
          case measure => have := HL.out; simp [intOf]; omega
        · obtain rfl : c = 7 := by omega
          go_wp2_with (first | (go_at_call 11; (with_reducible refine (new_bad 3 4 (by decide) _).mono ?_); rintro e w1 ⟨rfl, rfl⟩) | (go_at_call 11; (with_reducible refine (new_bad 17 0 (by decide) _).mono ?_); rintro e w1 ⟨rfl, rfl⟩) | (go_at_call 28; (with_reducible refine (read_any q ⟨#[0, 0]⟩ (by decide)).mono ?_); rintro e w1 ⟨r0, rfl, d1⟩; clear q) | (go_at_call 30; (with_reducible refine (lread_as d1 4 0 (by decide) at4 at0 (by decide) Q0.out).mono ?_); rintro e w1 ⟨rfl, d2⟩; simp only [set0, set4] at d2; clear d1) | (go_at_call 28; (with_reducible refine (read_any d2 ⟨#[0]⟩ (by decide)).mono ?_); rintro e w1 ⟨r1, rfl, d3⟩; clear d2) | (go_at_call 30; (with_reducible refine (lread_as d3 5 0 (by decide) at5 at0 (by decide) Q1.out).mono ?_); rintro e w1 ⟨rfl, d4⟩; simp only [set0, set5] at d4; clear d3) | (go_at_call 28; (with_reducible refine (read_any d4 ⟨#[255]⟩ (by decide)).mono ?_); rintro e w1 ⟨r2, rfl, d5⟩; clear d4) | (go_at_call 30; (with_reducible refine (lread_as d5 7 0 (by decide) at7 at0 (by decide) (lread_zero _ _ _ _)).mono ?_); rintro e w1 ⟨rfl, d6⟩; simp only [set0, set7] at d6; clear d5) | (go_at_call 30; (with_reducible refine (lread_nil d6 (some _) none (Or.inr rfl)).mono ?_); rintro e w1 ⟨rfl, d7⟩; clear d6) | (go_at_call 17; (with_reducible refine (len_as d7 3 at3 (by decide) (z := 0) (by decide)).mono ?_); rintro e w1 ⟨rfl, d8⟩; clear d7) | (go_at_call 30; (with_reducible refine (lread_nil d8 none none (Or.inr rfl)).mono ?_); rintro e w1 ⟨rfl, d9⟩; clear d8) | (go_at_call 19; (with_reducible refine (most_as d9 7 at7 (q := 0) (by decide)).mono ?_); rintro e w1 ⟨rfl, d10⟩; clear d9) | (go_at_call 19; (with_reducible refine (most_as d10 6 at6 (q := 2064) (by decide)).mono ?_); rintro e w1 ⟨rfl, d11⟩; clear d10) | (go_at_call 19; (with_reducible refine (most_as d11 5 at5 (q := 2063) (by decide)).mono ?_); rintro e w1 ⟨rfl, d12⟩; clear d11) | (go_at_call 19; (with_reducible refine (most_as d12 4 at4 (q := 2064) (by decide)).mono ?_); rintro e w1 ⟨rfl, d13⟩; clear d12) | (go_at_call 15; (with_reducible refine (lput_nil _ _ _).mono ?_); rintro e w1 ⟨rfl, rfl⟩) | (go_at_call 19; (with_reducible refine (most_nil _).mono ?_); rintro e w1 ⟨rfl, rfl⟩) | (go_at_call 27; (with_reducible refine (lcopy_nil _).mono ?_); rintro e w1 ⟨rfl, rfl⟩) | (go_at_call 10; (with_reducible refine (lknown_any d13).mono ?_); rintro e w1 ⟨rfl, d14⟩; clear d13))
          exact bodyPost_ret (results_tmp rfl _ _ _) rfl ⟨rfl, d14.below⟩

end Go.Proofs.Ytmlkkeabgnhhnaa
