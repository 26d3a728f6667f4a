/- Blocks as bins: the small functions. -/
import Derived.Test.YtchoiimmcgkimaaDoorJa
import Derived.Test.YtchoiimmcgkimaaDoorWe
import Derived.WalkMore
namespace Go.Proofs.YtchoiimmcgkimaaDoor
open Go.RowKit Go.Shelf
set_option linter.unusedVariables false
set_option maxRecDepth 100000
set_option linter.unusedSimpArgs false

@[reducible] def cxO (cat : Int) (o g : Nat) : Obj := .cells #[.int .i64 cat, .int .i64 (o : Int), .int .i64 (g : Int)] 44 (0, 0)
theorem cx_cells {w : World} {b : Nat} {cat : Int} {o g : Nat} (h : w.heap[b]? = some (cxO cat o g)) : w.cell? ⟨b, 0, none⟩ = some (.int .i64 cat) ∧ w.cell? ⟨b, 1, none⟩ = some (.int .i64 (o : Int)) ∧ w.cell? ⟨b, 2, none⟩ = some (.int .i64 (g : Int)) := by
  refine ⟨?_, ?_, ?_⟩ <;> simp [World.cell?, h]
theorem cx_free {w : World} {b : Nat} {cat : Int} {o g : Nat} (h : w.heap[b]? = some (cxO cat o g)) : w.frozen? ⟨b, 1, none⟩ = false ∧ w.frozen? ⟨b, 2, none⟩ = false := by
  refine ⟨?_, ?_⟩ <;> simp [World.frozen?, h]

def szK (cat : Nat) : Nat := [16, 15, 16, 4, 15].getD cat 0
theorem szK_le (cat : Nat) : szK cat ≤ 16 := by
  unfold szK
  match cat with
  | 0 => decide
  | 1 => decide
  | 2 => decide
  | 3 => decide
  | 4 => decide
  | n + 5 => simp
theorem szK_pos {cat : Nat} (h : cat ≤ 4) : 4 ≤ szK cat := by
  obtain rfl | rfl | rfl | rfl | rfl : cat = 0 ∨ cat = 1 ∨ cat = 2 ∨ cat = 3 ∨ cat = 4 := by omega
  all_goals decide
/-- The table of sizes lies in its block. -/
def SzIn (w : World) : Prop := ∀ k, k < 5 → w.cell? ⟨0, k, none⟩ = some (.int .i64 (szK k : Int))
theorem SzIn.later {w w' : World} (h : SzIn w) (hb : Below w.heap.size w w') (h0 : 0 < w.heap.size) : SzIn w' := fun k hk => (hb.cell (p := ⟨0, k, none⟩) h0).trans (h k hk)
theorem SzIn.pos {w : World} (h : SzIn w) : 0 < w.heap.size := by
  have := h 0 (by omega)
  rcases Nat.lt_or_ge 0 w.heap.size with h' | h'
  · exact h'
  · simp [World.cell?, Array.getElem?_eq_none h'] at this

theorem size_any {w : World} (hz : SzIn w) {cat : Nat} (hc : cat ≤ 4) : Calls Tryd.prog 11 #[.int .u8 (cat : Int)] w fun e w' => e = .returned (.tuple #[.int .i64 (szK cat : Int), .int .i64 0]) ∧ w = w' := by
  have c1 := hz cat (by omega)
  have hS : szK cat = [16, 15, 16, 4, 15].getD cat 0 := rfl
  obtain ⟨S, hS⟩ : ∃ S, szK cat = S := ⟨_, rfl⟩
  rw [hS] at c1 ⊢
  have i0 : (0 : Int) ≤ (cat : Int) := by omega
  have i1 : (cat : Int) < 5 := by omega
  have i2 : ¬ (5 : Int) ≤ (cat : Int) := by omega
  clear hz hS
  go_enter Tryd.func11, Tryd.ntmps11
  go_wp2_with (fail)
  exact bodyPost_ret (results_tmp2 rfl _ _ _) rfl ⟨rfl, rfl⟩
theorem size_is {w : World} (hz : SzIn w) {cat : Nat} (hc : cat ≤ 4) {S : Nat} (hS : szK cat = S) : Calls Tryd.prog 11 #[.int .u8 (cat : Int)] w fun e w' => e = .returned (.tuple #[.int .i64 (S : Int), .int .i64 0]) ∧ w = w' := by
  subst hS
  exact size_any hz hc
theorem args_any {w : World} (hz : SzIn w) {cat : Nat} (hc : cat ≤ 4) {inc : Int} (h0 : 0 ≤ inc) (h3 : inc ≤ 3) : Calls Tryd.prog 12 #[.int .u8 (cat : Int), .int .i64 inc] w fun e w' => e = .returned (.tuple #[.int .i64 (szK cat : Int), .int .i64 0]) ∧ w = w' := by
  have HZ := Lib.hid hz
  have n0 : ¬ inc < 0 := by omega
  have n3 : ¬ 3 < inc := by omega
  clear hz
  go_enter Tryd.func12, Tryd.ntmps12
  go_wp2_with (first | (go_at_call 11; (with_reducible refine (size_any HZ.out hc).mono ?_); rintro e w1 ⟨rfl, rfl⟩))
  exact bodyPost_ret (results_tmp2 rfl _ _ _) rfl ⟨rfl, rfl⟩

theorem args_is {w : World} (hz : SzIn w) {cat : Nat} (hc : cat ≤ 4) {inc : Int} (h0 : 0 ≤ inc) (h3 : inc ≤ 3) {n : Nat} (hn : szK cat = n) : Calls Tryd.prog 12 #[.int .u8 (cat : Int), .int .i64 inc] w fun e w' => e = .returned (.tuple #[.int .i64 (n : Int), .int .i64 0]) ∧ w = w' := by
  subst hn
  exact args_any hz hc h0 h3

theorem number_any {w : World} {b : Nat} {cat : Int} {o g : Nat} (h : w.heap[b]? = some (cxO cat o g)) (h0 : 0 ≤ cat) (h4 : cat ≤ 4) (i : Nat) (hi : i ≤ 100) :
    Calls Tryd.prog 14 #[.pointer (some ⟨b, 0, none⟩), .int .i64 (i : Int)] w fun e w' => e = .returned (.int .i64 (nmK cat i)) ∧ w = w' := by
  obtain ⟨c0, c1, c2⟩ := cx_cells h
  clear h c1 c2
  by_cases c : cat = 3
  · subst c
    obtain ⟨m, hm⟩ : ∃ m : Nat, m = min i 2 := ⟨_, rfl⟩
    have e1 : min (i : Int) 2 = (m : Int) := by omega
    have e2 : nmK 3 i = 45 + (m : Int) := by unfold nmK; rw [if_pos rfl, hm]; omega
    have e3 : IntKind.i64.wrap (45 + (m : Int)) = 45 + (m : Int) := by rw [IntKind.wrap_i64]; omega
    rw [e2]
    clear hm e2
    go_enter Tryd.func14, Tryd.ntmps14
    go_wp2_with (fail)
    exact bodyPost_ret (results_tmp rfl _ _ _) rfl ⟨rfl, rfl⟩
  · have e1 : IntKind.u8.wrap cat = cat := by rw [IntKind.wrap_u8]; omega
    have e0 : (cat == 3) = false := by simp [c]
    have e2 : nmK cat i = 15 * cat + (i : Int) := by unfold nmK; rw [if_neg c]
    have e3 : IntKind.i64.wrap (15 * cat + (i : Int)) = 15 * cat + (i : Int) := by rw [IntKind.wrap_i64]; omega
    have e4 : IntKind.i64.wrap (15 * cat) = 15 * cat := by rw [IntKind.wrap_i64]; omega
    rw [e2]
    clear e2
    go_enter Tryd.func14, Tryd.ntmps14
    go_wp2_with (fail)
    exact bodyPost_ret (results_tmp rfl _ _ _) rfl ⟨rfl, rfl⟩

theorem results_cellJ {fn : Func} {t : Tmp} {T : TypeId} (h : fn.results = #[.cell t T]) {tmps : Array Value} {P : Program} {w : World} {a : Addr} {x : Value} (ha : tmps.getD t undef = .pointer (some a)) (hx : (loadVar T a).run P w = .ok x w) :
    (results fn tmps).run P w = .ok x w := by
  have ha' : tmps[t]?.getD undef = .pointer (some a) := by simpa using ha
  simp [results, h, ha', asAddr, hx]
theorem bin_load {w : World} {b : Nat} {c x : Int} (h : w.heap[b]? = some (.cells #[.int .i64 c, .int .u8 x] 31 (0, 0))) : (loadVar 31 ⟨b, 0, none⟩).run Tryd.prog w = .ok (.agg #[.int .i64 c, .int .u8 x]) w := by
  have s0 : w.cell? ⟨b, 0, none⟩ = some (.int .i64 c) := by simp [World.cell?, h]
  have s1 : w.cell? ⟨b, 1, none⟩ = some (.int .u8 x) := by simp [World.cell?, h]
  clear h
  go_simp
theorem flag_any {W w : World} {L : List AObj} {F : List (Nat × Obj)} (h : Hp W w L F) (c : Int) (is : Bool) :
    Calls Tryd.prog 13 #[.int .i64 c, .bool is] w fun e w' => e = .returned (bvl (c, b1 is)) ∧ Hp W w' L F := by
  have hfin : ∀ b v, v = (w.alloc (.cells #[.int .i64 c, .int .u8 b] 31 (0, 0))).alloc (.cells #[.int .i64 c, .int .u8 b] 31 (0, 0)) → (loadVar 31 ⟨w.heap.size, 0, none⟩).run Tryd.prog v = .ok (.agg #[.int .i64 c, .int .u8 b]) v ∧ Hp W v L F := by
    rintro b v rfl
    have := (h.alloc (.cells #[.int .i64 c, .int .u8 b] 31 (0, 0))).alloc (.cells #[.int .i64 c, .int .u8 b] 31 (0, 0))
    exact ⟨bin_load (this.blk (.tail _ (.head _))), this.drop.drop⟩
  have HF := Lib.hid hfin
  clear h hfin
  cases is
  · go_enter Tryd.func13, Tryd.ntmps13
    go_wp2_with (fail)
    obtain ⟨q1, q2⟩ := HF.out 0 _ rfl
    exact bodyPost_ret (results_cellJ rfl rfl q1) rfl ⟨rfl, q2⟩
  · go_enter Tryd.func13, Tryd.ntmps13
    go_wp2_with (fail)
    obtain ⟨q1, q2⟩ := HF.out 1 _ rfl
    exact bodyPost_ret (results_cellJ rfl rfl q1) rfl ⟨rfl, q2⟩

theorem came_any {W w : World} {L : List AObj} {F : List (Nat × Obj)} {b : Nat} {cat : Int} {o g : Nat} (h : Hp W w L ((b, cxO cat o g) :: F)) (ho : o ≤ 100) (hg : g ≤ 100) (z : Int) :
    Calls Tryd.prog 20 #[.pointer (some ⟨b, 0, none⟩), .int .i64 z] w fun e w' => (∃ v, e = .returned v) ∧ Hp W w' L ((b, cxO cat (o + if z.natAbs = 1 then 1 else 0) (g + if z.natAbs = 1 then 0 else 1)) :: F) := by
  obtain ⟨c0, c1, c2⟩ := cx_cells (h.blk (.head _))
  obtain ⟨f1, f2⟩ := cx_free (h.blk (.head _))
  have w1 : IntKind.i64.wrap ((o : Int) + 1) = ((o + 1 : Nat) : Int) := by rw [IntKind.wrap_i64]; omega
  have w2 : IntKind.i64.wrap ((g : Int) + 1) = ((g + 1 : Nat) : Int) := by rw [IntKind.wrap_i64]; omega
  have g1 : Hp W (w.setCell ⟨b, 1, none⟩ (.int .i64 ((o + 1 : Nat) : Int))) L ((b, cxO cat (o + 1) g) :: F) := h.set 0 rfl 1 _
  have g2 : Hp W (w.setCell ⟨b, 2, none⟩ (.int .i64 ((g + 1 : Nat) : Int))) L ((b, cxO cat o (g + 1)) :: F) := h.set 0 rfl 2 _
  have G1 := Lib.hid g1
  have G2 := Lib.hid g2
  clear g1 g2 h
  by_cases c : z = 1
  · subst c
    go_enter Tryd.func20, Tryd.ntmps20
    go_wp2_with (fail)
    exact bodyPost_end (results_none rfl _ _ _) rfl ⟨⟨_, rfl⟩, G1.out⟩
  · by_cases c' : z = -1
    · subst c'
      go_enter Tryd.func20, Tryd.ntmps20
      go_wp2_with (fail)
      exact bodyPost_end (results_none rfl _ _ _) rfl ⟨⟨_, rfl⟩, G1.out⟩
    · have e1 : (z == 1) = false := by simp [c]
      have e2 : (z == -1) = false := by simp [c']
      have e3 : ¬ z.natAbs = 1 := by omega
      rw [if_neg e3, if_neg e3]
      clear e3
      go_enter Tryd.func20, Tryd.ntmps20
      go_wp2_with (fail)
      exact bodyPost_end (results_none rfl _ _ _) rfl ⟨⟨_, rfl⟩, G2.out⟩
/-- The frame of contexts in a world. -/
theorem level_any {w : World} {b : Nat} {cat : Int} {o g : Nat} (h : w.heap[b]? = some (cxO cat o g)) (h0 : 0 ≤ cat) (h4 : cat ≤ 4) (ho : o ≤ 100) (hg : g ≤ 100) :
    Calls Tryd.prog 17 #[.pointer (some ⟨b, 0, none⟩)] w fun e w' => e = .returned (.tuple #[.int .i64 (lvF cat o g), .int .i64 (lvR cat g)]) ∧ ∃ x, w' = w.drewN x := by
  obtain ⟨c0, c1, c2⟩ := cx_cells h
  have k1 : IntKind.i64.wrap (10 * cat) = 10 * cat := by rw [IntKind.wrap_i64]; omega
  obtain ⟨B, hB⟩ : ∃ B, B = 236 + 10 * cat := ⟨_, rfl⟩
  have k2 : IntKind.i64.wrap (236 + 10 * cat) = B := by rw [hB, IntKind.wrap_i64]; omega
  have b1 : 236 ≤ B := by omega
  have b2 : B ≤ 276 := by omega
  have eF : lvF cat o g = B + (if g = 0 then ((min (o + 1) 4 : Nat) : Int) else 0) := by unfold lvF; rw [hB]
  obtain ⟨m, hm⟩ : ∃ m : Nat, m = min g 4 := ⟨_, rfl⟩
  have eR : lvR cat g = B + 5 + (m : Int) := by unfold lvR; rw [hB, hm]
  have k3 : IntKind.i64.wrap (B + 5) = B + 5 := by rw [IntKind.wrap_i64]; omega
  have k4 : IntKind.i64.wrap (B + 5 + (m : Int)) = B + 5 + (m : Int) := by rw [IntKind.wrap_i64]; omega
  have k5 : min (g : Int) 4 = (m : Int) := by omega
  rw [eF, eR]
  clear h eF eR
  by_cases c : g = 0
  · subst c
    have m0 : m = 0 := by omega
    subst m0
    rw [if_pos rfl, show B + 5 + ((0 : Nat) : Int) = B + 5 by omega]
    have z5 : min (0 : Int) 4 = 0 := by decide
    clear k4 k5
    by_cases c3 : o ≤ 3
    · obtain rfl | rfl | rfl | rfl : o = 0 ∨ o = 1 ∨ o = 2 ∨ o = 3 := by omega
      all_goals clear hm c3 ho hg hB
      · have k6 : IntKind.i64.wrap (B + 1) = B + 1 := by rw [IntKind.wrap_i64]; omega
        rw [show ((min (0 + 1) 4 : Nat) : Int) = 1 by decide]
        clear b1 b2 h0 h4
        go_enter Tryd.func17, Tryd.ntmps17
        go_wp2
        go_step3
        go_wp2
        go_step3
        go_wp2
        refine wp_loop_rounds 6 ?_
        rw [rounds_succ]
        go_wp2_with (fail)
        refine wp_loop_rounds 6 ?_
        rw [rounds_succ]
        go_wp2_with (fail)
        go_quiet (fail)
        go_wp2_with (fail)
        rw [Exit.noGoto_ret]
        exact bodyPost_ret (results_tmp2 rfl _ _ _) rfl ⟨rfl, _, rfl⟩
      · have k6 : IntKind.i64.wrap (B + 2) = B + 2 := by rw [IntKind.wrap_i64]; omega
        rw [show ((min (1 + 1) 4 : Nat) : Int) = 2 by decide]
        clear b1 b2 h0 h4
        go_enter Tryd.func17, Tryd.ntmps17
        go_wp2
        go_step3
        go_wp2
        go_step3
        go_wp2
        refine wp_loop_rounds 6 ?_
        rw [rounds_succ]
        go_wp2_with (fail)
        refine wp_loop_rounds 6 ?_
        rw [rounds_succ]
        go_wp2_with (fail)
        rw [rounds_succ]
        go_wp2_with (fail)
        go_quiet (fail)
        go_wp2_with (fail)
        rw [Exit.noGoto_ret]
        exact bodyPost_ret (results_tmp2 rfl _ _ _) rfl ⟨rfl, _, rfl⟩
      · have k6 : IntKind.i64.wrap (B + 3) = B + 3 := by rw [IntKind.wrap_i64]; omega
        rw [show ((min (2 + 1) 4 : Nat) : Int) = 3 by decide]
        clear b1 b2 h0 h4
        go_enter Tryd.func17, Tryd.ntmps17
        go_wp2
        go_step3
        go_wp2
        go_step3
        go_wp2
        refine wp_loop_rounds 6 ?_
        rw [rounds_succ]
        go_wp2_with (fail)
        refine wp_loop_rounds 6 ?_
        rw [rounds_succ]
        go_wp2_with (fail)
        rw [rounds_succ]
        go_wp2_with (fail)
        rw [rounds_succ]
        go_wp2_with (fail)
        go_quiet (fail)
        go_wp2_with (fail)
        rw [Exit.noGoto_ret]
        exact bodyPost_ret (results_tmp2 rfl _ _ _) rfl ⟨rfl, _, rfl⟩
      · have k6 : IntKind.i64.wrap (B + 4) = B + 4 := by rw [IntKind.wrap_i64]; omega
        rw [show ((min (3 + 1) 4 : Nat) : Int) = 4 by decide]
        clear b1 b2 h0 h4
        go_enter Tryd.func17, Tryd.ntmps17
        go_wp2
        go_step3
        go_wp2
        go_step3
        go_wp2
        refine wp_loop_rounds 6 ?_
        rw [rounds_succ]
        go_wp2_with (fail)
        refine wp_loop_rounds 6 ?_
        rw [rounds_succ]
        go_wp2_with (fail)
        rw [rounds_succ]
        go_wp2_with (fail)
        rw [rounds_succ]
        go_wp2_with (fail)
        rw [rounds_succ]
        go_wp2_with (fail)
        go_quiet (fail)
        go_wp2_with (fail)
        rw [Exit.noGoto_ret]
        exact bodyPost_ret (results_tmp2 rfl _ _ _) rfl ⟨rfl, _, rfl⟩
    · have k6 : IntKind.i64.wrap (B + 4) = B + 4 := by rw [IntKind.wrap_i64]; omega
      have n1 : ((min (o + 1) 4 : Nat) : Int) = 4 := by omega
      rw [n1]
      have q1 : ¬ (o : Int) < 1 := by omega
      have q2 : ¬ (o : Int) < 2 := by omega
      have q3 : ¬ (o : Int) < 3 := by omega
      have q4 : ¬ (o : Int) < 4 := by omega
      clear b1 b2 h0 h4 hm c3 ho hg hB n1
      go_enter Tryd.func17, Tryd.ntmps17
      go_wp2
      go_step3
      go_wp2
      go_step3
      go_wp2
      refine wp_loop_rounds 6 ?_
      rw [rounds_succ]
      go_wp2_with (fail)
      refine wp_loop_rounds 6 ?_
      rw [rounds_succ]
      go_wp2_with (fail)
      rw [rounds_succ]
      go_wp2_with (fail)
      rw [rounds_succ]
      go_wp2_with (fail)
      rw [rounds_succ]
      go_wp2_with (fail)
      rw [rounds_succ]
      go_wp2_with (fail)
      go_quiet (fail)
      go_wp2_with (fail)
      rw [Exit.noGoto_ret]
      exact bodyPost_ret (results_tmp2 rfl _ _ _) rfl ⟨rfl, _, rfl⟩
  · have g1 : ¬ ((g : Int) = 0) := by omega
    have g2 : ((g : Int) == 0) = false := by simp; omega
    rw [if_neg c, Int.add_zero]
    have k6 : IntKind.i64.wrap (B + 0) = B := by rw [IntKind.wrap_i64]; omega
    have k7 : IntKind.i64.wrap B = B := by rw [IntKind.wrap_i64]; omega
    clear b1 b2 h0 h4 hm c ho hg hB
    go_enter Tryd.func17, Tryd.ntmps17
    go_wp2
    go_step3
    go_wp2
    go_step3
    go_wp2
    refine wp_loop_rounds 6 ?_
    rw [rounds_succ]
    go_wp2_with (fail)
    go_quiet (fail)
    go_wp2_with (fail)
    rw [Exit.noGoto_ret]
    exact bodyPost_ret (results_tmp2 rfl _ _ _) rfl ⟨rfl, _, rfl⟩
end Go.Proofs.YtchoiimmcgkimaaDoor
