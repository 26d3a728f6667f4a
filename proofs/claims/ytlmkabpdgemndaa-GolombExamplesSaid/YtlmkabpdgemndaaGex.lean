/- The walk of GolombExamples. -/
import Derived.Test.YtlmkabpdgemndaaGba
namespace Go.Proofs.Ytlmkabpdgemndaa
open Go.RowKit
set_option linter.unusedVariables false
set_option maxRecDepth 100000
set_option linter.unusedSimpArgs false

section
variable {W w : World} {L : List AObj} {F : List (Nat × Obj)} {b : Nat} {B : List Bool}
theorem pueB_no {v : Nat} (h : pueE v = 3) : pueB B v = B := by unfold pueB; rw [if_neg (by rw [h]; decide)]
theorem gput_ue_no (h : Hp W w L F) (k : Nat) (hk : L[k]? = some (aWr b B)) (hB : B.length ≤ 2 ^ 40) (v : Int) (h1 : 4294967294 < v) (h2 : v < 18446744073709551616) :
    Calls Try.prog 18 #[.pointer (some ⟨b, 0, none⟩), .int .u64 v] w fun e w' => e = .returned (.int .i64 3) ∧ Hp W w' L F := by
  obtain ⟨n, rfl⟩ : ∃ n : Nat, v = (n : Int) := ⟨v.toNat, by omega⟩
  have e : pueE n = 3 := if_pos (by omega)
  have := gput_ue h k hk hB n (by omega)
  rwa [e, pueB_no e, set_same hk] at this
theorem gput_se_no (h : Hp W w L F) (k : Nat) (hk : L[k]? = some (aWr b B)) (hB : B.length ≤ 2 ^ 40) (v : Int) (h1 : -9223372036854775808 ≤ v) (h2 : v ≤ 9223372036854775807) (h3 : v < -2147483647 ∨ 2147483647 < v) :
    Calls Try.prog 24 #[.pointer (some ⟨b, 0, none⟩), .int .i64 v] w fun e w' => e = .returned (.int .i64 3) ∧ Hp W w' L F := by
  have e : pseE v = 3 := if_pos h3
  have e2 : pseB B v = B := by unfold pseB; rw [if_neg (by rw [e]; decide)]
  have := gput_se h k hk hB v h1 h2
  rwa [e, e2, set_same hk] at this
theorem gput_te_i (h : Hp W w L F) (k : Nat) (hk : L[k]? = some (aWr b B)) (hB : B.length ≤ 2 ^ 40) (m v : Int) (h0 : 0 ≤ m) (h1 : m < 18446744073709551616) (h2 : 0 ≤ v) (h3 : v < 18446744073709551616) :
    Calls Try.prog 26 #[.pointer (some ⟨b, 0, none⟩), .int .u64 m, .int .u64 v] w fun e w' => e = .returned (.int .i64 (pteE m.toNat v.toNat)) ∧ Hp W w' (L.set k (aWr b (pteB B m.toNat v.toNat))) F := by
  obtain ⟨n, rfl⟩ : ∃ n : Nat, v = (n : Int) := ⟨v.toNat, by omega⟩
  obtain ⟨q, rfl⟩ : ∃ n : Nat, m = (n : Int) := ⟨m.toNat, by omega⟩
  exact gput_te h k hk hB q n (by omega) (by omega)
theorem gput_te_no (h : Hp W w L F) (k : Nat) (hk : L[k]? = some (aWr b B)) (hB : B.length ≤ 2 ^ 40) (m v : Int) (h0 : 0 ≤ m) (h1 : m < 18446744073709551616) (h2 : 0 ≤ v) (h3 : v < 18446744073709551616) (h4 : 4294967294 < m ∨ m < v) :
    Calls Try.prog 26 #[.pointer (some ⟨b, 0, none⟩), .int .u64 m, .int .u64 v] w fun e w' => e = .returned (.int .i64 3) ∧ Hp W w' L F := by
  have := gput_te_i h k hk hB m v h0 h1 h2 h3
  have e : pteE m.toNat v.toNat = 3 := if_pos (by omega)
  have e2 : pteB B m.toNat v.toNat = B := by unfold pteB; rw [if_neg (by rw [e]; decide)]
  rwa [e, e2, set_same hk] at this
theorem gput_uk_no (h : Hp W w L F) (k : Nat) (hk : L[k]? = some (aWr b B)) (hB : B.length ≤ 2 ^ 39) (n v : Int) (h2 : 0 ≤ v) (h3 : v < 18446744073709551616) (h4 : pukE n v.toNat = 3) :
    Calls Try.prog 28 #[.pointer (some ⟨b, 0, none⟩), .int .i64 n, .int .u64 v] w fun e w' => e = .returned (.int .i64 3) ∧ Hp W w' L F := by
  obtain ⟨q, rfl⟩ : ∃ n : Nat, v = (n : Int) := ⟨v.toNat, by omega⟩
  have h4' : pukE n q = 3 := h4
  have e2 : pukB B n q = B := by unfold pukB; rw [if_neg (by rw [h4']; decide)]
  have := gput_uk h k hk hB n q (by omega)
  rwa [h4', e2, set_same hk] at this
theorem gput_uk_i (h : Hp W w L F) (k : Nat) (hk : L[k]? = some (aWr b B)) (hB : B.length ≤ 2 ^ 39) (n v : Int) (h2 : 0 ≤ v) (h3 : v < 18446744073709551616) :
    Calls Try.prog 28 #[.pointer (some ⟨b, 0, none⟩), .int .i64 n, .int .u64 v] w fun e w' => e = .returned (.int .i64 (pukE n v.toNat)) ∧ Hp W w' (L.set k (aWr b (pukB B n v.toNat))) F := by
  obtain ⟨q, rfl⟩ : ∃ n : Nat, v = (n : Int) := ⟨v.toNat, by omega⟩
  exact gput_uk h k hk hB n q (by omega)
theorem wbits_as (h : Hp W w L F) (k : Nat) (hk : L[k]? = some (aWr b B)) (hB : B.length ≤ 2 ^ 41) {S : ByteArray} (hS : strB B = S) :
    Calls Try.prog 31 #[.pointer (some ⟨b, 0, none⟩)] w fun e w' => e = .returned (.string S) ∧ Hp W w' L F := by subst hS; exact wbits_any h k hk hB
theorem gue_as (h : Hp W w L F) (k : Nat) {s : ByteArray} {i : Nat} (hk : L[k]? = some (aRd b s i)) {v : Nat} {z e0 : Int} (hv : ueV s i = v ∧ (v : Int) = z) (he : ueE s i = e0) :
    Calls Try.prog 17 #[.pointer (some ⟨b, 0, none⟩)] w fun e w' => e = .returned (.tuple #[.int .u64 z, .int .i64 e0]) ∧ Hp W w' (L.set k (aRd b s (ueI s i))) F := by
  have := gue_any h k hk
  rwa [hv.1, hv.2, he] at this
theorem gte_as (h : Hp W w L F) (k : Nat) {s : ByteArray} {i : Nat} (hk : L[k]? = some (aRd b s i)) (m : Int) (h0 : 0 ≤ m) (h1 : m < 18446744073709551616) {v : Nat} {z e0 : Int} (hv : teV s i m.toNat = v ∧ (v : Int) = z) (he : teE s i m.toNat = e0) :
    Calls Try.prog 40 #[.pointer (some ⟨b, 0, none⟩), .int .u64 m] w fun e w' => e = .returned (.tuple #[.int .u64 z, .int .i64 e0]) ∧ Hp W w' (L.set k (aRd b s (teI s i m.toNat))) F := by
  obtain ⟨n, rfl⟩ : ∃ n : Nat, m = (n : Int) := ⟨m.toNat, by omega⟩
  have := gte_any h k hk n (by omega)
  rw [Int.toNat_natCast] at hv he
  rwa [hv.1, hv.2, he] at this
theorem guk_nil_hp (h : Hp W w L F) (n : Int) : Calls Try.prog 42 #[.pointer none, .int .i64 n] w fun e w' => e = .returned (.tuple #[.int .u64 0, .int .i64 1]) ∧ Hp W w' L F :=
  (guk_nil n w).mono fun _ _ ⟨he, hb⟩ => ⟨he, h.same hb⟩
end

def sgT (c : Nat) : Int := [0, 1, -1, 2, -2].getD c 0
def ktT (c : Nat) : Nat := [0, 3, 4, 13].getD c 0
def xE1 : Nat → List Bool
  | 0 => []
  | c + 1 => xE1 c ++ ueB c
def xE2 : Nat → List Bool
  | 0 => xE1 4
  | c + 1 => xE2 c ++ ueB (seN (sgT c))
def xE3 : List Bool := xE2 5 ++ teB 0 0 ++ teB 1 0 ++ teB 1 1 ++ teB 2 2
def xE4 : Nat → List Bool
  | 0 => xE3
  | c + 1 => xE4 c ++ ukB 2 (ktT c)
theorem sgT_at {c : Nat} (h : c < 5) : (#[Value.int .i64 0, .int .i64 1, .int .i64 (-1), .int .i64 2, .int .i64 (-2)] : Array Value)[c]? = some (.int .i64 (sgT c)) := by
  have : c = 0 ∨ c = 1 ∨ c = 2 ∨ c = 3 ∨ c = 4 := by omega
  rcases this with rfl | rfl | rfl | rfl | rfl <;> rfl
theorem ktT_at {c : Nat} (h : c < 4) : (#[Value.int .u64 0, .int .u64 3, .int .u64 4, .int .u64 13] : Array Value)[c]? = some (.int .u64 (ktT c)) := by
  have : c = 0 ∨ c = 1 ∨ c = 2 ∨ c = 3 := by omega
  rcases this with rfl | rfl | rfl | rfl <;> rfl
theorem okT_at {c : Nat} (h : c < 4) : (#[Value.int .i64 0, .int .i64 0, .int .i64 0, .int .i64 0] : Array Value)[c]? = some (.int .i64 0) := by
  have : c = 0 ∨ c = 1 ∨ c = 2 ∨ c = 3 := by omega
  rcases this with rfl | rfl | rfl | rfl <;> rfl
theorem sgT_b {c : Nat} (h : c < 5) : -2 ≤ sgT c ∧ sgT c ≤ 2 := by
  have : c = 0 ∨ c = 1 ∨ c = 2 ∨ c = 3 ∨ c = 4 := by omega
  rcases this with rfl | rfl | rfl | rfl | rfl <;> decide
theorem ktT_b {c : Nat} (h : c < 4) : ktT c ≤ 13 := by
  have : c = 0 ∨ c = 1 ∨ c = 2 ∨ c = 3 := by omega
  rcases this with rfl | rfl | rfl | rfl <;> decide
theorem cell_in {W w : World} {L : List AObj} {F : List (Nat × Obj)} (h : Hp W w L F) {g c : Nat} {cs : Array Value} {t : TypeId} {x : Value} (hm : (g, Obj.cells cs t (0, 0)) ∈ F) (hx : cs[c]? = some x) : w.cell? ⟨g, c, none⟩ = some x := by
  have := h.blk hm
  simp only at this
  simp [World.cell?, this, hx]
theorem xE1_len : ∀ c, c ≤ 4 → (xE1 c).length ≤ 100 := by decide
theorem xE2_len : ∀ c, c ≤ 5 → (xE2 c).length ≤ 200 := by decide
theorem xE4_len : ∀ c, c ≤ 4 → (xE4 c).length ≤ 400 := by decide
theorem xE4_str : strB (xE4 4) = ⟨#[49, 48, 49, 48, 48, 49, 49, 48, 48, 49, 48, 48, 49, 48, 49, 48, 48, 49, 49, 48, 48, 49, 48, 48, 48, 48, 49, 48, 49, 49, 48, 48, 49, 49, 49, 48, 48, 49, 49, 49, 48, 49, 48, 48, 48, 48, 48, 49, 48, 48, 48, 49]⟩ := by decide +kernel

set_option maxHeartbeats 4000000 in
theorem gexamples_walk (W : World) : Calls Try.prog 9 #[] W fun e w' => e = .returned (.bool true) ∧ Below W.heap.size W w' := by
  have hS := Hp.start W
  have te0 : pteE (Int.toNat 0) (Int.toNat 0) = 0 := by decide
  have te1 : pteE (Int.toNat 1) (Int.toNat 0) = 0 := by decide
  have te2 : pteE (Int.toNat 1) (Int.toNat 1) = 0 := by decide
  have te3 : pteE (Int.toNat 2) (Int.toNat 2) = 0 := by decide
  obtain ⟨X0, hX0⟩ : ∃ X, X = xE2 5 := ⟨_, rfl⟩
  obtain ⟨X1, hX1⟩ : ∃ X, X = X0 ++ teB 0 0 := ⟨_, rfl⟩
  obtain ⟨X2, hX2⟩ : ∃ X, X = X1 ++ teB 1 0 := ⟨_, rfl⟩
  obtain ⟨X3, hX3⟩ : ∃ X, X = X2 ++ teB 1 1 := ⟨_, rfl⟩
  obtain ⟨X4, hX4⟩ : ∃ X, X = X3 ++ teB 2 2 := ⟨_, rfl⟩
  have tb0 : pteB X0 (Int.toNat 0) (Int.toNat 0) = X1 := by unfold pteB; rw [if_pos te0, hX1]; rfl
  have tb1 : pteB X1 (Int.toNat 1) (Int.toNat 0) = X2 := by unfold pteB; rw [if_pos te1, hX2]; rfl
  have tb2 : pteB X2 (Int.toNat 1) (Int.toNat 1) = X3 := by unfold pteB; rw [if_pos te2, hX3]; rfl
  have tb3 : pteB X3 (Int.toNat 2) (Int.toNat 2) = X4 := by unfold pteB; rw [if_pos te3, hX4]; rfl
  have hX : X4 = xE3 := by rw [hX4, hX3, hX2, hX1, hX0]; rfl
  have hE0 : X0.length ≤ 2 ^ 40 := by rw [hX0]; have := xE2_len 5 (by omega); omega
  have hE1 : X1.length ≤ 2 ^ 40 := by rw [hX1, hX0]; decide
  have hE2 : X2.length ≤ 2 ^ 40 := by rw [hX2, hX1, hX0]; decide
  have hE3 : X3.length ≤ 2 ^ 40 := by rw [hX3, hX2, hX1, hX0]; decide
  have HX := Lib.hid (And.intro hX0 hX); clear hX hX0 hX1 hX2 hX3 hX4
  have TE := Lib.hid (And.intro (And.intro te0 te1) (And.intro te2 te3)); clear te0 te1 te2 te3
  have TB := Lib.hid (And.intro (And.intro tb0 tb1) (And.intro tb2 tb3)); clear tb0 tb1 tb2 tb3
  have hEF : (xE4 4).length ≤ 2 ^ 41 := by have := xE4_len 4 (by omega); omega
  have hEF40 : (xE4 4).length ≤ 2 ^ 40 := by have := xE4_len 4 (by omega); omega
  have hEF39 : (xE4 4).length ≤ 2 ^ 39 := by have := xE4_len 4 (by omega); omega
  have HF := Lib.hid xE4_str
  have u1 : (ueV ⟨#[0, 0, 0, 0]⟩ 0 = 0 ∧ ((0 : Nat) : Int) = 0) ∧ ueE ⟨#[0, 0, 0, 0]⟩ 0 = 4 := by decide +kernel
  have u2 : (ueV ⟨#[0, 0, 0, 1, 255, 255, 255, 255]⟩ 0 = 4294967294 ∧ ((4294967294 : Nat) : Int) = 4294967294) ∧ ueE ⟨#[0, 0, 0, 1, 255, 255, 255, 255]⟩ 0 = 0 := by decide +kernel
  have u3 : (ueV ⟨#[0, 0, 0]⟩ 0 = 0 ∧ ((0 : Nat) : Int) = 0) ∧ ueE ⟨#[0, 0, 0]⟩ 0 = 5 := by decide +kernel
  have u4 : (teV ⟨#[32]⟩ 0 (Int.toNat 3) = 3 ∧ ((3 : Nat) : Int) = 3) ∧ teE ⟨#[32]⟩ 0 (Int.toNat 3) = 0 := by decide +kernel
  have U1 := Lib.hid u1; have U2 := Lib.hid u2; have U3 := Lib.hid u3; have U4 := Lib.hid u4
  clear u1 u2 u3 u4
  go_enter Try.func9, Try.ntmps9
  go_wp2_with (first | (go_at_call 13; (with_reducible refine (write_any hS).mono ?_); rintro e w1 ⟨wb, rfl, q1⟩; clear hS))
  have HS := Lib.hid q1; clear q1
  go_loopw [2] (fun v wr => ∃ c : Nat, v = .int .u64 c ∧ c ≤ 4 ∧ Hp W wr [aWr wb (xE1 c)] []) (fun v _ => 4 - (intOf v).toNat)
  case atStart => exact ⟨0, rfl, by omega, HS.out⟩
  case round =>
    obtain ⟨c, rfl, hc, g⟩ := hrel
    by_cases hlt : c < 4
    · have hl : (xE1 c).length ≤ 2 ^ 40 := by have := xE1_len c (by omega); omega
      have p1 : pueE c = 0 := if_neg (by omega)
      have p2 : pueB (xE1 c) c = xE1 (c + 1) := by unfold pueB; rw [if_pos p1]; rfl
      have P := Lib.hid (And.intro p1 p2); clear p1 p2
      have hc64 : c < 18446744073709551616 := by omega
      go_wp2_with (first | (go_at_call 18; (with_reducible refine (gput_ue g 0 at0 hl c hc64).mono ?_); rintro e w1 ⟨rfl, g2⟩; simp only [set0, P.out.1, P.out.2] at g2 ⊢; clear g))
      go_roundw
      case rel => exact ⟨c + 1, by go_num, by omega, g2⟩
      case measure => simp [intOf]; omega
    · obtain rfl : c = 4 := by omega
      go_wp2_with (fail)
      have a1 := g.alloc (.cells #[.int .i64 0, .int .i64 1, .int .i64 (-1), .int .i64 2, .int .i64 (-2)] 2 (0, 0))
      generalize wr.heap.size = g1 at *
      generalize wr.alloc (.cells #[.int .i64 0, .int .i64 1, .int .i64 (-1), .int .i64 2, .int .i64 (-2)] 2 (0, 0)) = w2 at *
      have HA := Lib.hid a1; clear a1 g
      go_loopw [4] (fun i wx => ∃ c : Nat, i = .int .i64 c ∧ c ≤ 5 ∧ Hp W wx [aWr wb (xE2 c)] [(g1, .cells #[.int .i64 0, .int .i64 1, .int .i64 (-1), .int .i64 2, .int .i64 (-2)] 2 (0, 0))]) (fun i _ => 5 - (intOf i).toNat)
      case atStart => exact ⟨0, rfl, by omega, HA.out⟩
      case round =>
        obtain ⟨c, rfl, hc2, g⟩ := hrel
        by_cases hlt2 : c < 5
        · have hl : (xE2 c).length ≤ 2 ^ 40 := by have := xE2_len c (by omega); omega
          have hcell := cell_in g (List.mem_singleton_self _) (sgT_at hlt2)
          obtain ⟨b1, b2⟩ := sgT_b hlt2
          have p0 : xE2 (c + 1) = xE2 c ++ ueB (seN (sgT c)) := rfl
          generalize sgT c = v at *
          have p1 : pseE v = 0 := if_neg (by omega)
          have p2 : pseB (xE2 c) v = xE2 (c + 1) := by unfold pseB; rw [if_pos p1, p0]
          have P := Lib.hid (And.intro p1 p2); clear p1 p2 p0
          have b3 : -9223372036854775808 ≤ v := by omega
          have b4 : v ≤ 9223372036854775807 := by omega
          go_wp2_with (first | (go_at_call 24; (with_reducible refine (gput_se g 0 at0 hl v b3 b4).mono ?_); rintro e w1 ⟨rfl, g2⟩; simp only [set0, P.out.1, P.out.2] at g2 ⊢; clear g))
          go_roundw
          case rel => exact ⟨c + 1, by go_num, by omega, g2⟩
          case measure => simp [intOf]; omega
        · obtain rfl : c = 5 := by omega
          have a2 := g.drop
          rw [← HX.out.1] at a2
          clear g
          go_wp2_with (first | (go_at_call 26; (with_reducible refine (gput_te_i a2 0 at0 hE0 0 0 (by decide) (by decide) (by decide) (by decide)).mono ?_); rintro e w1 ⟨rfl, t1⟩; simp only [set0, TE.out.1.1, TB.out.1.1] at t1 ⊢; clear a2) | (go_at_call 26; (with_reducible refine (gput_te_i t1 0 at0 hE1 1 0 (by decide) (by decide) (by decide) (by decide)).mono ?_); rintro e w1 ⟨rfl, t2⟩; simp only [set0, TE.out.1.2, TB.out.1.2] at t2 ⊢; clear t1) | (go_at_call 26; (with_reducible refine (gput_te_i t2 0 at0 hE2 1 1 (by decide) (by decide) (by decide) (by decide)).mono ?_); rintro e w1 ⟨rfl, t3⟩; simp only [set0, TE.out.2.1, TB.out.2.1] at t3 ⊢; clear t2) | (go_at_call 26; (with_reducible refine (gput_te_i t3 0 at0 hE3 2 2 (by decide) (by decide) (by decide) (by decide)).mono ?_); rintro e w1 ⟨rfl, t4⟩; simp only [set0, TE.out.2.2, TB.out.2.2] at t4 ⊢; clear t3))
          have a4 := t4.alloc (.cells #[.int .i64 0, .int .i64 0, .int .i64 0, .int .i64 0] 28 (0, 0))
          clear t4
          obtain ⟨wz, hwz⟩ : ∃ x, x = w1.alloc (.cells #[.int .i64 0, .int .i64 0, .int .i64 0, .int .i64 0] 28 (0, 0)) := ⟨_, rfl⟩
          rw [← hwz] at a4 ⊢
          clear hwz
          generalize w1.heap.size = g2 at *
          rw [HX.out.2] at a4
          have HB := Lib.hid a4; clear a4
          go_loopw [6] (fun i wx => ∃ c : Nat, i = .int .i64 c ∧ c ≤ 4 ∧ Hp W wx [aWr wb xE3] [(g2, .cells #[.int .i64 0, .int .i64 0, .int .i64 0, .int .i64 0] 28 (0, 0))]) (fun i _ => 4 - (intOf i).toNat)
          case atStart => exact ⟨0, rfl, by omega, HB.out⟩
          case round =>
            obtain ⟨c, rfl, hc3, g⟩ := hrel
            by_cases hlt3 : c < 4
            · have hcell := cell_in g (List.mem_singleton_self _) (okT_at hlt3)
              have G := Lib.hid g; clear g
              go_wp2_with (fail)
              go_roundw
              case rel => exact ⟨c + 1, by go_num, by omega, G.out⟩
              case measure => simp [intOf]; omega
            · obtain rfl : c = 4 := by omega
              have a5 := g.drop.alloc (.cells #[.int .u64 0, .int .u64 3, .int .u64 4, .int .u64 13] 32 (0, 0))
              clear g
              go_wp2_with (fail)
              obtain ⟨wy, hwy⟩ : ∃ x, x = wr.alloc (.cells #[.int .u64 0, .int .u64 3, .int .u64 4, .int .u64 13] 32 (0, 0)) := ⟨_, rfl⟩
              rw [← hwy] at a5 ⊢
              clear hwy
              generalize wr.heap.size = g3 at *
              have HC := Lib.hid a5; clear a5
              go_loopw [8] (fun i wx => ∃ c : Nat, i = .int .i64 c ∧ c ≤ 4 ∧ Hp W wx [aWr wb (xE4 c)] [(g3, .cells #[.int .u64 0, .int .u64 3, .int .u64 4, .int .u64 13] 32 (0, 0))]) (fun i _ => 4 - (intOf i).toNat)
              case atStart => exact ⟨0, rfl, by omega, HC.out⟩
              case round =>
                obtain ⟨c, rfl, hc4, g⟩ := hrel
                by_cases hlt4 : c < 4
                · have hl : (xE4 c).length ≤ 2 ^ 39 := by have := xE4_len c (by omega); omega
                  have hcell := cell_in g (List.mem_singleton_self _) (ktT_at hlt4)
                  have b1 := ktT_b hlt4
                  have p0 : xE4 (c + 1) = xE4 c ++ ukB 2 (ktT c) := rfl
                  generalize ktT c = v at *
                  have p1 : pukE 2 v = 0 := by
                    have : v / 2 ^ (Int.toNat 2) ≤ v := Nat.div_le_self _ _
                    unfold pukE; rw [if_neg (by omega)]
                  have p2 : pukB (xE4 c) 2 v = xE4 (c + 1) := by unfold pukB; rw [if_pos p1, p0]; rfl
                  have P := Lib.hid (And.intro p1 p2); clear p1 p2 p0
                  have b3 : v < 18446744073709551616 := by omega
                  go_wp2_with (first | (go_at_call 28; (with_reducible refine (gput_uk g 0 at0 hl 2 v b3).mono ?_); rintro e w1 ⟨rfl, g2⟩; simp only [set0, P.out.1, P.out.2] at g2 ⊢; clear g))
                  go_roundw
                  case rel => exact ⟨c + 1, by go_num, by omega, g2⟩
                  case measure => simp [intOf]; omega
                · obtain rfl : c = 4 := by omega
                  have a3 := g.drop
                  clear g
                  go_wp2_with (first | (go_at_call 31; (with_reducible refine (wbits_as a3 0 at0 hEF HF.out).mono ?_); rintro e w1 ⟨rfl, f1⟩; clear a3) | (go_at_call 18; (with_reducible refine (gput_ue_no f1 0 at0 hEF40 4294967295 (by decide) (by decide)).mono ?_); rintro e w1 ⟨rfl, f2⟩; clear f1) | (go_at_call 24; (with_reducible refine (gput_se_no f2 0 at0 hEF40 2147483648 (by decide) (by decide) (by decide)).mono ?_); rintro e w1 ⟨rfl, f3⟩; clear f2) | (go_at_call 24; (with_reducible refine (gput_se_no f3 0 at0 hEF40 (-2147483648) (by decide) (by decide) (by decide)).mono ?_); rintro e w1 ⟨rfl, f4⟩; clear f3) | (go_at_call 26; (with_reducible refine (gput_te_no f4 0 at0 hEF40 1 2 (by decide) (by decide) (by decide) (by decide) (by decide)).mono ?_); rintro e w1 ⟨rfl, f5⟩; clear f4) | (go_at_call 26; (with_reducible refine (gput_te_no f5 0 at0 hEF40 4294967295 0 (by decide) (by decide) (by decide) (by decide) (by decide)).mono ?_); rintro e w1 ⟨rfl, f6⟩; clear f5) | (go_at_call 28; (with_reducible refine (gput_uk_no f6 0 at0 hEF39 9 0 (by decide) (by decide) (by decide)).mono ?_); rintro e w1 ⟨rfl, f7⟩; clear f6) | (go_at_call 28; (with_reducible refine (gput_uk_no f7 0 at0 hEF39 1 8589934592 (by decide) (by decide) (by decide)).mono ?_); rintro e w1 ⟨rfl, f8⟩; clear f7) | (go_at_call 12; (with_reducible refine (read_any f8 ⟨#[0, 0, 0, 0]⟩ (by decide)).mono ?_); rintro e w1 ⟨r1, rfl, f9⟩; clear f8) | (go_at_call 17; (with_reducible refine (gue_as f9 0 at0 U1.out.1 U1.out.2).mono ?_); rintro e w1 ⟨rfl, f10⟩; clear f9) | (go_at_call 12; (with_reducible refine (read_any f10 ⟨#[0, 0, 0, 1, 255, 255, 255, 255]⟩ (by decide)).mono ?_); rintro e w1 ⟨r2, rfl, f11⟩; clear f10) | (go_at_call 17; (with_reducible refine (gue_as f11 0 at0 U2.out.1 U2.out.2).mono ?_); rintro e w1 ⟨rfl, f12⟩; clear f11) | (go_at_call 12; (with_reducible refine (read_any f12 ⟨#[0, 0, 0]⟩ (by decide)).mono ?_); rintro e w1 ⟨r3, rfl, f13⟩; clear f12) | (go_at_call 17; (with_reducible refine (gue_as f13 0 at0 U3.out.1 U3.out.2).mono ?_); rintro e w1 ⟨rfl, f14⟩; clear f13) | (go_at_call 12; (with_reducible refine (read_any f14 ⟨#[32]⟩ (by decide)).mono ?_); rintro e w1 ⟨r4, rfl, f15⟩; clear f14) | (go_at_call 40; (with_reducible refine (gte_as f15 0 at0 3 (by decide) (by decide) U4.out.1 U4.out.2).mono ?_); rintro e w1 ⟨rfl, f16⟩; clear f15) | (go_at_call 17; (with_reducible refine (gue_nil _).mono ?_); rintro e w1 ⟨rfl, rfl⟩) | (go_at_call 38; (with_reducible refine (gse_nil _).mono ?_); rintro e w1 ⟨rfl, rfl⟩) | (go_at_call 40; (with_reducible refine (gte_nil _ _).mono ?_); rintro e w1 ⟨rfl, rfl⟩) | (go_at_call 42; (with_reducible refine (guk_nil_hp f16 _).mono ?_); rintro e w1 ⟨rfl, f17⟩; clear f16) | (go_at_call 18; (with_reducible refine (gput_ue_nil _ _).mono ?_); rintro e w1 ⟨rfl, rfl⟩) | (go_at_call 24; (with_reducible refine (gput_se_nil _ _).mono ?_); rintro e w1 ⟨rfl, rfl⟩) | (go_at_call 26; (with_reducible refine (gput_te_nil _ _ _).mono ?_); rintro e w1 ⟨rfl, rfl⟩) | (go_at_call 28; (with_reducible refine (gput_uk_nil _ _ _).mono ?_); rintro e w1 ⟨rfl, rfl⟩) | (go_at_call 11; (with_reducible refine (gknown_any f17).mono ?_); rintro e w1 ⟨rfl, f18⟩; clear f17))
                  exact bodyPost_ret (results_tmp rfl _ _ _) rfl ⟨rfl, f18.below⟩

end Go.Proofs.Ytlmkabpdgemndaa
