/- Coders in memory; the functions of a length. -/
import Derived.Test.YtmlkkeabgnhhnaaLz
namespace Go.Proofs.Ytmlkkeabgnhhnaa
open Go.RowKit
set_option linter.unusedVariables false
set_option maxRecDepth 100000
set_option linter.unusedSimpArgs false

/-- An object that is one block. -/
def aBk (b : Nat) (cs : Array Value) (t : TypeId) : AObj where
  P w G := G b ∧ w.heap[b]? = some (.cells cs t (0, 0))
  loc hh hG := fun ⟨h1, h2⟩ => ⟨hG _ h1, (hh _ h1).trans h2⟩

section
variable {W w : World} {L : List AObj} {F : List (Nat × Obj)} {b : Nat} {cs : Array Value} {t : TypeId}
theorem Hp.bk (h : Hp W w L F) (k : Nat) (hk : L[k]? = some (aBk b cs t)) : w.heap[b]? = some (.cells cs t (0, 0)) := by
  obtain ⟨_, o, _, _, _, hL⟩ := h
  exact (hL k _ hk).2
theorem Hp.bk_set (h : Hp W w L F) (k : Nat) (hk : L[k]? = some (aBk b cs t)) (j : Nat) (v : Value) :
    Hp W (w.setCell ⟨b, j, none⟩ v) (L.set k (aBk b (cs.setIfInBounds j v) t)) F := by
  obtain ⟨G, ⟨g1, g2⟩, hG, hx⟩ := h.turn k hk
  have hlt := lt_of_block g2
  have h3' : w.heap[b] = .cells cs t (0, 0) := by simpa [Array.getElem?_eq_getElem hlt] using g2
  refine hx _ _ rfl rfl rfl (by simp [World.setCell]) (fun c hc hn => ?_) ⟨Or.inl g1, ?_⟩
  · exact Below.heap_setCell w ⟨b, j, none⟩ _ c (fun e => hn (e ▸ g1))
  · show (w.heap.modify b _)[b]? = _
    rw [Array.getElem?_eq_getElem (by simpa using hlt), Array.getElem_modify_self, h3']
    rfl
theorem Hp.bk_new (h : Hp W w L F) (cs : Array Value) (t : TypeId) : Hp W (w.alloc (.cells cs t (0, 0))) (aBk w.heap.size cs t :: L) F :=
  h.make ((Below.refl _ _).alloc (Nat.le_refl _) _) ⟨⟨Nat.le_refl _, by simp⟩, by show (w.heap.push _)[w.heap.size]? = _; simp⟩
end
/-- The program's coder, the reference's. -/
def aCo (b k l sk : Nat) : AObj := aBk b #[.int .i64 k, .int .i64 l, .int .i64 sk] 66
def aQco (b k l sk : Nat) : AObj := aBk b #[.int .i64 l, .int .i64 k, .int .i64 sk] 69

theorem escape_any {k : Nat} (hk : k ≤ 6) (w : World) : Calls Try.prog 50 #[.int .i64 k] w fun e w' => e = .returned (.int .i64 (esc k)) ∧ w = w' := by
  revert w
  refine seven (P := fun k : Nat => ∀ w, Calls Try.prog 50 #[.int .i64 k] w fun e w' => e = .returned (.int .i64 (esc k)) ∧ w = w') ?_ ?_ ?_ ?_ ?_ ?_ ?_ hk
  all_goals
    intro w
    go_enter Try.func50, Try.ntmps50
    go_wp2_with (fail)
    exact bodyPost_ret (results_tmp rfl _ _ _) rfl ⟨rfl, rfl⟩

theorem lmost_any {k : Nat} (hk : k ≤ 6) (w : World) : Calls Try.prog 40 #[.int .i64 k] w fun e w' => e = .returned (.int .i64 (mst k)) ∧ w = w' := by
  have hb := esc_le k hk
  have e : (mst k : Int) = (esc k : Int) + 4095 := by unfold mst; omega
  rw [e]
  clear e
  go_enter Try.func40, Try.ntmps40
  go_wp2_with (first | (go_at_call 50; (with_reducible refine (escape_any hk _).mono ?_); rintro e w1 ⟨rfl, rfl⟩))
  refine bodyPost_ret (results_tmp rfl _ _ _) rfl ⟨?_, rfl⟩
  simp <;> omega

theorem i64_and_nat (a b : Nat) (ha : a < 9223372036854775808) (hb : b < 9223372036854775808) : bits .and .i64 (a : Int) (b : Int) = ((a &&& b : Nat) : Int) := by
  show IntKind.i64.wrap ((BitVec.ofInt 64 (a : Int) &&& BitVec.ofInt 64 (b : Int)).toNat : Nat) = _
  have e1 : ((a : Int) % ((2 ^ 64 : Nat) : Int)).toNat = a := by omega
  have e2 : ((b : Int) % ((2 ^ 64 : Nat) : Int)).toNat = b := by omega
  have h : a &&& b ≤ a := Nat.and_le_left
  rw [BitVec.toNat_and, BitVec.toNat_ofInt, BitVec.toNat_ofInt, e1, e2, IntKind.wrap_i64]
  omega
theorem i64_mask (F : Nat) {v : Nat} {M : Int} (hv : v < 9223372036854775808) (hM : M = ((2 ^ F - 1 : Nat) : Int)) (hF : 2 ^ F ≤ 9223372036854775808) : bits .and .i64 (v : Int) M = (v : Int) % (2 ^ F : Nat) := by
  rw [hM, i64_and_nat _ _ hv (by omega), Nat.and_two_pow_sub_one_eq_mod]
  simp

theorem esc_lit (k : Nat) {x y : Int} (hk : k ≤ 6) (hx : (k : Int) = x) (hy : (esc k : Int) = y) (w : World) : Calls Try.prog 50 #[.int .i64 x] w fun e w' => e = .returned (.int .i64 y) ∧ w = w' := by
  subst hx; subst hy
  exact escape_any hk w
set_option maxHeartbeats 4000000 in
theorem split_any {k : Nat} (hk : k ≤ 6) (c : Nat) (hc : c ≤ 2 ^ 40) (w : World) :
    Calls Try.prog 41 #[.int .i64 k, .int .i64 c] w fun e w' => e = .returned (.tuple #[.int .i64 (cP k c), .int .i64 (cV k c), .int .i64 (cN k c)]) ∧ ∃ n, w' = w.drewN n := by
  have : k = 0 ∨ k = 1 ∨ k = 2 ∨ k = 3 ∨ k = 4 ∨ k = 5 ∨ k = 6 := by omega
  clear hk
  rcases this with rfl | rfl | rfl | rfl | rfl | rfl | rfl
  · have E := esc_lit 0 (x := 0) (y := 30) (by decide) rfl rfl
    by_cases h1 : 30 ≤ c
    · have t1 : decide (30 ≤ (c : Int)) = true := by simp; omega
      have P : cP 0 c = 15 ∧ cV 0 c = c - 30 ∧ cN 0 c = 12 := by
        unfold cP cV cN
        rw [show esc 0 = 30 from rfl]
        simp <;> (try split) <;> (try split) <;> omega
      go_enter Try.func41, Try.ntmps41
      go_wp2_with (first | (go_at_call 50; (with_reducible refine (E _).mono ?_); rintro e w1 ⟨rfl, rfl⟩))
      rw [P.1, P.2.1, P.2.2]
      refine bodyPost_ret (results_tmp3 rfl _ _ _) rfl ⟨?_, 0, rfl⟩
      simp <;> omega
    · have t1 : decide (30 ≤ (c : Int)) = false := by simp; omega
      by_cases h2 : 14 ≤ c
      · have t2 : decide (14 ≤ (c : Int)) = true := by simp; omega
        have P : cP 0 c = 14 ∧ cV 0 c = c - 14 ∧ cN 0 c = 4 := by
          unfold cP cV cN
          rw [show esc 0 = 30 from rfl]
          simp <;> (try split) <;> (try split) <;> omega
        go_enter Try.func41, Try.ntmps41
        go_wp2_with (first | (go_at_call 50; (with_reducible refine (E _).mono ?_); rintro e w1 ⟨rfl, rfl⟩))
        rw [P.1, P.2.1, P.2.2]
        refine bodyPost_ret (results_tmp3 rfl _ _ _) rfl ⟨?_, 0, rfl⟩
        simp <;> omega
      · have t2 : decide (14 ≤ (c : Int)) = false := by simp; omega
        have P : cP 0 c = c ∧ cV 0 c = 0 ∧ cN 0 c = 0 := by
          unfold cP cV cN
          rw [show esc 0 = 30 from rfl]
          simp <;> (try split) <;> (try split) <;> omega
        go_enter Try.func41, Try.ntmps41
        go_wp2_with (first | (go_at_call 50; (with_reducible refine (E _).mono ?_); rintro e w1 ⟨rfl, rfl⟩))
        rw [P.1, P.2.1, P.2.2]
        refine bodyPost_ret (results_tmp3 rfl _ _ _) rfl ⟨?_, 0, rfl⟩
        simp <;> omega
  · have E := esc_lit 1 (x := 1) (y := 30) (by decide) rfl rfl
    have m : bits .and .i64 (c : Int) 1 = (c : Int) % 2 := i64_mask 1 (by omega) rfl (by decide)
    by_cases h1 : 30 ≤ c
    · have t1 : decide (30 ≤ (c : Int)) = true := by simp; omega
      have P : cP 1 c = 15 ∧ cV 1 c = c - 30 ∧ cN 1 c = 12 := by
        unfold cP cV cN
        rw [show esc 1 = 30 from rfl]
        simp <;> (try split) <;> (try split) <;> omega
      go_enter Try.func41, Try.ntmps41
      go_wp2_with (first | (go_at_call 50; (with_reducible refine (E _).mono ?_); rintro e w1 ⟨rfl, rfl⟩))
      rw [P.1, P.2.1, P.2.2]
      refine bodyPost_ret (results_tmp3 rfl _ _ _) rfl ⟨?_, 0, rfl⟩
      simp <;> omega
    · have t1 : decide (30 ≤ (c : Int)) = false := by simp; omega
      have P : cP 1 c = c / 2 ∧ cV 1 c = c % 2 ∧ cN 1 c = 1 := by
        unfold cP cV cN
        rw [show esc 1 = 30 from rfl]
        simp <;> (try split) <;> (try split) <;> omega
      go_enter Try.func41, Try.ntmps41
      go_wp2_with (first | (go_at_call 50; (with_reducible refine (E _).mono ?_); rintro e w1 ⟨rfl, rfl⟩))
      go_quiet (fail)
      go_wp2_with (fail)
      rw [P.1, P.2.1, P.2.2]
      refine bodyPost_ret (results_tmp3 rfl _ _ _) rfl ⟨?_, _, rfl⟩
      simp <;> omega
  · have E := esc_lit 2 (x := 2) (y := 60) (by decide) rfl rfl
    have m : bits .and .i64 (c : Int) 3 = (c : Int) % 4 := i64_mask 2 (by omega) rfl (by decide)
    by_cases h1 : 60 ≤ c
    · have t1 : decide (60 ≤ (c : Int)) = true := by simp; omega
      have P : cP 2 c = 15 ∧ cV 2 c = c - 60 ∧ cN 2 c = 12 := by
        unfold cP cV cN
        rw [show esc 2 = 60 from rfl]
        simp <;> (try split) <;> (try split) <;> omega
      go_enter Try.func41, Try.ntmps41
      go_wp2_with (first | (go_at_call 50; (with_reducible refine (E _).mono ?_); rintro e w1 ⟨rfl, rfl⟩))
      rw [P.1, P.2.1, P.2.2]
      refine bodyPost_ret (results_tmp3 rfl _ _ _) rfl ⟨?_, 0, rfl⟩
      simp <;> omega
    · have t1 : decide (60 ≤ (c : Int)) = false := by simp; omega
      have P : cP 2 c = c / 4 ∧ cV 2 c = c % 4 ∧ cN 2 c = 2 := by
        unfold cP cV cN
        rw [show esc 2 = 60 from rfl]
        simp <;> (try split) <;> (try split) <;> omega
      go_enter Try.func41, Try.ntmps41
      go_wp2_with (first | (go_at_call 50; (with_reducible refine (E _).mono ?_); rintro e w1 ⟨rfl, rfl⟩))
      go_quiet (fail)
      go_wp2_with (fail)
      rw [P.1, P.2.1, P.2.2]
      refine bodyPost_ret (results_tmp3 rfl _ _ _) rfl ⟨?_, _, rfl⟩
      simp <;> omega
  · have E := esc_lit 3 (x := 3) (y := 120) (by decide) rfl rfl
    have m : bits .and .i64 (c : Int) 7 = (c : Int) % 8 := i64_mask 3 (by omega) rfl (by decide)
    by_cases h1 : 120 ≤ c
    · have t1 : decide (120 ≤ (c : Int)) = true := by simp; omega
      have P : cP 3 c = 15 ∧ cV 3 c = c - 120 ∧ cN 3 c = 12 := by
        unfold cP cV cN
        rw [show esc 3 = 120 from rfl]
        simp <;> (try split) <;> (try split) <;> omega
      go_enter Try.func41, Try.ntmps41
      go_wp2_with (first | (go_at_call 50; (with_reducible refine (E _).mono ?_); rintro e w1 ⟨rfl, rfl⟩))
      rw [P.1, P.2.1, P.2.2]
      refine bodyPost_ret (results_tmp3 rfl _ _ _) rfl ⟨?_, 0, rfl⟩
      simp <;> omega
    · have t1 : decide (120 ≤ (c : Int)) = false := by simp; omega
      have P : cP 3 c = c / 8 ∧ cV 3 c = c % 8 ∧ cN 3 c = 3 := by
        unfold cP cV cN
        rw [show esc 3 = 120 from rfl]
        simp <;> (try split) <;> (try split) <;> omega
      go_enter Try.func41, Try.ntmps41
      go_wp2_with (first | (go_at_call 50; (with_reducible refine (E _).mono ?_); rintro e w1 ⟨rfl, rfl⟩))
      go_quiet (fail)
      go_wp2_with (fail)
      rw [P.1, P.2.1, P.2.2]
      refine bodyPost_ret (results_tmp3 rfl _ _ _) rfl ⟨?_, _, rfl⟩
      simp <;> omega
  · have E := esc_lit 4 (x := 4) (y := 240) (by decide) rfl rfl
    have m : bits .and .i64 (c : Int) 15 = (c : Int) % 16 := i64_mask 4 (by omega) rfl (by decide)
    by_cases h1 : 240 ≤ c
    · have t1 : decide (240 ≤ (c : Int)) = true := by simp; omega
      have P : cP 4 c = 15 ∧ cV 4 c = c - 240 ∧ cN 4 c = 12 := by
        unfold cP cV cN
        rw [show esc 4 = 240 from rfl]
        simp <;> (try split) <;> (try split) <;> omega
      go_enter Try.func41, Try.ntmps41
      go_wp2_with (first | (go_at_call 50; (with_reducible refine (E _).mono ?_); rintro e w1 ⟨rfl, rfl⟩))
      rw [P.1, P.2.1, P.2.2]
      refine bodyPost_ret (results_tmp3 rfl _ _ _) rfl ⟨?_, 0, rfl⟩
      simp <;> omega
    · have t1 : decide (240 ≤ (c : Int)) = false := by simp; omega
      have P : cP 4 c = c / 16 ∧ cV 4 c = c % 16 ∧ cN 4 c = 4 := by
        unfold cP cV cN
        rw [show esc 4 = 240 from rfl]
        simp <;> (try split) <;> (try split) <;> omega
      go_enter Try.func41, Try.ntmps41
      go_wp2_with (first | (go_at_call 50; (with_reducible refine (E _).mono ?_); rintro e w1 ⟨rfl, rfl⟩))
      go_quiet (fail)
      go_wp2_with (fail)
      rw [P.1, P.2.1, P.2.2]
      refine bodyPost_ret (results_tmp3 rfl _ _ _) rfl ⟨?_, _, rfl⟩
      simp <;> omega
  · have E := esc_lit 5 (x := 5) (y := 480) (by decide) rfl rfl
    have m : bits .and .i64 (c : Int) 31 = (c : Int) % 32 := i64_mask 5 (by omega) rfl (by decide)
    by_cases h1 : 480 ≤ c
    · have t1 : decide (480 ≤ (c : Int)) = true := by simp; omega
      have P : cP 5 c = 15 ∧ cV 5 c = c - 480 ∧ cN 5 c = 12 := by
        unfold cP cV cN
        rw [show esc 5 = 480 from rfl]
        simp <;> (try split) <;> (try split) <;> omega
      go_enter Try.func41, Try.ntmps41
      go_wp2_with (first | (go_at_call 50; (with_reducible refine (E _).mono ?_); rintro e w1 ⟨rfl, rfl⟩))
      rw [P.1, P.2.1, P.2.2]
      refine bodyPost_ret (results_tmp3 rfl _ _ _) rfl ⟨?_, 0, rfl⟩
      simp <;> omega
    · have t1 : decide (480 ≤ (c : Int)) = false := by simp; omega
      have P : cP 5 c = c / 32 ∧ cV 5 c = c % 32 ∧ cN 5 c = 5 := by
        unfold cP cV cN
        rw [show esc 5 = 480 from rfl]
        simp <;> (try split) <;> (try split) <;> omega
      go_enter Try.func41, Try.ntmps41
      go_wp2_with (first | (go_at_call 50; (with_reducible refine (E _).mono ?_); rintro e w1 ⟨rfl, rfl⟩))
      go_quiet (fail)
      go_wp2_with (fail)
      rw [P.1, P.2.1, P.2.2]
      refine bodyPost_ret (results_tmp3 rfl _ _ _) rfl ⟨?_, _, rfl⟩
      simp <;> omega
  · have E := esc_lit 6 (x := 6) (y := 960) (by decide) rfl rfl
    have m : bits .and .i64 (c : Int) 63 = (c : Int) % 64 := i64_mask 6 (by omega) rfl (by decide)
    by_cases h1 : 960 ≤ c
    · have t1 : decide (960 ≤ (c : Int)) = true := by simp; omega
      have P : cP 6 c = 15 ∧ cV 6 c = c - 960 ∧ cN 6 c = 12 := by
        unfold cP cV cN
        rw [show esc 6 = 960 from rfl]
        simp <;> (try split) <;> (try split) <;> omega
      go_enter Try.func41, Try.ntmps41
      go_wp2_with (first | (go_at_call 50; (with_reducible refine (E _).mono ?_); rintro e w1 ⟨rfl, rfl⟩))
      rw [P.1, P.2.1, P.2.2]
      refine bodyPost_ret (results_tmp3 rfl _ _ _) rfl ⟨?_, 0, rfl⟩
      simp <;> omega
    · have t1 : decide (960 ≤ (c : Int)) = false := by simp; omega
      have P : cP 6 c = c / 64 ∧ cV 6 c = c % 64 ∧ cN 6 c = 6 := by
        unfold cP cV cN
        rw [show esc 6 = 960 from rfl]
        simp <;> (try split) <;> (try split) <;> omega
      go_enter Try.func41, Try.ntmps41
      go_wp2_with (first | (go_at_call 50; (with_reducible refine (E _).mono ?_); rintro e w1 ⟨rfl, rfl⟩))
      go_quiet (fail)
      go_wp2_with (fail)
      rw [P.1, P.2.1, P.2.2]
      refine bodyPost_ret (results_tmp3 rfl _ _ _) rfl ⟨?_, _, rfl⟩
      simp <;> omega

theorem co_one {W w : World} {L : List AObj} {F : List (Nat × Obj)} {b K l sk m : Nat} (h : Hp W w L F) (k : Nat) (hk : L[k]? = some (aBk b #[.int .i64 K, .int .i64 l, .int .i64 sk] 66)) {X : Int} (hX : ((nxt K m : Nat) : Int) = X) :
    Hp W (w.setCell ⟨b, 0, none⟩ (.int .i64 X)) (L.set k (aCo b (nxt K m) l sk)) F := by
  subst hX
  exact h.bk_set k hk 0 _
theorem co_two {W w : World} {L : List AObj} {F : List (Nat × Obj)} {b K l sk m : Nat} (h : Hp W w L F) (k : Nat) (hk : L[k]? = some (aBk b #[.int .i64 K, .int .i64 l, .int .i64 sk] 66)) {v : Value} {X : Int} (hX : ((nxt K m : Nat) : Int) = X) :
    Hp W ((w.setCell ⟨b, 0, none⟩ v).setCell ⟨b, 0, none⟩ (.int .i64 X)) (L.set k (aCo b (nxt K m) l sk)) F := by
  subst hX
  have := (h.bk_set k hk 0 v).bk_set k (set_at hk _) 0 (.int .i64 (nxt K m))
  rw [set_set] at this
  exact this

set_option maxHeartbeats 4000000 in
theorem after_any {W w : World} {L : List AObj} {F : List (Nat × Obj)} {b K l sk : Nat} (h : Hp W w L F) (k : Nat) (hk : L[k]? = some (aCo b K l sk)) (hK : K ≤ 6) (m : Nat) (hm : m ≤ 2 ^ 62) :
    Calls Try.prog 55 #[.pointer (some ⟨b, 0, none⟩), .int .i64 m] w fun e w' => e = .returned (.tuple #[]) ∧ Hp W w' (L.set k (aCo b (nxt K m) l sk)) F := by
  unfold aCo at hk
  obtain ⟨c0, c1, c2, f0, f1, f2⟩ := cells_three (h.bk k hk)
  have H := Lib.hid h
  clear h
  have HK := Lib.hid hk
  clear hk
  have : K = 0 ∨ K = 1 ∨ K = 2 ∨ K = 3 ∨ K = 4 ∨ K = 5 ∨ K = 6 := by omega
  clear hK
  rcases this with rfl | rfl | rfl | rfl | rfl | rfl | rfl
  all_goals
    go_enter Try.func55, Try.ntmps55
    go_wp2_with (fail)
  all_goals
    refine bodyPost_end (results_none rfl _ _ _) rfl ⟨rfl, ?_⟩
    first
      | exact co_two H.out k HK.out (by unfold nxt; simp <;> (try split) <;> omega)
      | exact co_one H.out k HK.out (by unfold nxt; simp <;> (try split) <;> omega)

end Go.Proofs.Ytmlkkeabgnhhnaa
