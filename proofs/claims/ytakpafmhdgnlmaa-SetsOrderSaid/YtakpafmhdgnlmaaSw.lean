/- The law's own functions: mod, sps, pps, put, has, awake. -/
import Derived.Test.YtakpafmhdgnlmaaSg
namespace Go.Proofs.Ytakpafmhdgnlmaa
open Go.RowKit
set_option linter.unusedVariables false
set_option maxRecDepth 100000
set_option linter.unusedSimpArgs false

theorem smod_any (x n : Int) (hn : 1 ≤ n) (hn2 : n ≤ 1048576) (hx1 : -9223372036854775808 ≤ x) (hx2 : x < 9223372036854775808) (w : World) :
    Calls Try.prog 10 #[.int .i64 x, .int .i64 n] w fun e w' => e = .returned (.int .i64 (x % n)) ∧ w = w' := by
  have h1 : x.tmod n < n := Int.tmod_lt_of_pos x (by omega)
  have h2 : -n < x.tmod n := Int.lt_tmod_of_pos x (by omega)
  have e : (x.tmod n + n) % n = x % n := by
    rw [Int.add_emod_right]
    rw [Int.tmod_def]
    exact Int.sub_mul_emod_self_left x n _
  have e2 : (x.tmod n + n).tmod n = x % n := by rw [Int.tmod_eq_emod_of_nonneg (by omega), e]
  have hw : IntKind.i64.wrap (x.tmod n + n) = x.tmod n + n := by rw [IntKind.wrap_i64]; omega
  have hn0 : ¬ n = 0 := by omega
  clear e
  go_enter Try.func10, Try.ntmps10
  go_wp2_with (fail)
  exact bodyPost_ret (results_tmp rfl _ _ _) rfl ⟨rfl, rfl⟩
theorem smod_as (x n : Int) (hn : 1 ≤ n) (hn2 : n ≤ 1048576) (hx : -9223372036854775808 ≤ x ∧ x < 9223372036854775808) {y : Int} (hy : x % n = y) (w : World) :
    Calls Try.prog 10 #[.int .i64 x, .int .i64 n] w fun e w' => e = .returned (.int .i64 y) ∧ w = w' := by
  subst hy
  exact smod_any x n hn hn2 hx.1 hx.2 w

theorem results_cell1 {fn : Func} {t : Tmp} {T : TypeId} (h : fn.results = #[.cell t T]) {tmps : Array Value} {P : Program} {w : World} {a : Addr} {x : Value} (ha : tmps.getD t undef = .pointer (some a)) (hx : (loadVar T a).run P w = .ok x w) :
    (results fn tmps).run P w = .ok x w := by
  have ha' : tmps[t]?.getD undef = .pointer (some a) := by simpa using ha
  simp [results, h, ha', asAddr, hx]

@[reducible] def plS : SpsD := ⟨77, 0, 10, 0, 4, 4, 1, 1, 1⟩
@[reducible] def plP : PpsD := ⟨0, 0, false, 1, 1, 0, 0, 0, false, false⟩
@[reducible] def sW (id refs : Int) : SpsD := ⟨77, 0, 10, id, 4, 4, refs, 1, 1⟩
@[reducible] def pW (id sps : Int) : PpsD := ⟨id, sps, false, 1, 1, 0, 0, 0, false, false⟩
theorem okS_W {id refs : Int} (h1 : 0 ≤ id ∧ id ≤ 31) (h2 : 0 ≤ refs ∧ refs ≤ 16) : okS (sW id refs) = true := by unfold okS; simp; omega
theorem okP_W {id sps : Int} (h1 : 0 ≤ id ∧ id ≤ 31) (h2 : 0 ≤ sps ∧ sps ≤ 31) : okP (pW id sps) = true := by unfold okP; simp; omega

theorem plain_s (w : World) : Calls Try.prog 23 #[] w fun e w' => e = .returned (sv plS) ∧ Below w.heap.size w w' := by
  have hfin : ∀ v, v = w.alloc (sObj plS) → (loadVar 29 ⟨w.heap.size, 0, none⟩).run Try.prog v = .ok (sv plS) v ∧ Below w.heap.size w v := by
    rintro v rfl
    exact ⟨load_s (blk0 w _), (Below.refl _ _).alloc (Nat.le_refl _) _⟩
  go_enter Try.func23, Try.ntmps23
  go_wp2_with (fail)
  obtain ⟨q1, q2⟩ := hfin _ rfl
  exact bodyPost_ret (results_cell1 rfl rfl q1) rfl ⟨rfl, q2⟩
theorem plain_p (w : World) : Calls Try.prog 24 #[] w fun e w' => e = .returned (pv plP) ∧ Below w.heap.size w w' := by
  have hfin : ∀ v, v = w.alloc (pObj plP) → (loadVar 26 ⟨w.heap.size, 0, none⟩).run Try.prog v = .ok (pv plP) v ∧ Below w.heap.size w v := by
    rintro v rfl
    exact ⟨load_p (blk0 w _), (Below.refl _ _).alloc (Nat.le_refl _) _⟩
  go_enter Try.func24, Try.ntmps24
  go_wp2_with (fail)
  obtain ⟨q1, q2⟩ := hfin _ rfl
  exact bodyPost_ret (results_cell1 rfl rfl q1) rfl ⟨rfl, q2⟩

theorem setCell_blk {w : World} {b : Nat} {cs : Array Value} {t : TypeId} (h : w.heap[b]? = some (.cells cs t (0, 0))) (j : Nat) (v : Value) : (w.setCell ⟨b, j, none⟩ v).heap[b]? = some (.cells (cs.setIfInBounds j v) t (0, 0)) := by
  have hlt := lt_of_block h
  have h3 : w.heap[b] = .cells cs t (0, 0) := by simpa [Array.getElem?_eq_getElem hlt] using h
  show (w.heap.modify b _)[b]? = _
  rw [Array.getElem?_eq_getElem (by simpa using hlt), Array.getElem_modify_self, h3]
  rfl
/-- A whole value is stored. -/
def sSet (w : World) (b : Nat) (x : SpsD) : World := ((((((((w.setCell ⟨b, 0, none⟩ (.int .u8 x.pr)).setCell ⟨b, 1, none⟩ (.int .u8 x.fl)).setCell ⟨b, 2, none⟩ (.int .u8 x.le)).setCell ⟨b, 3, none⟩ (.int .i64 x.id)).setCell ⟨b, 4, none⟩ (.int .i64 x.fb)).setCell ⟨b, 5, none⟩ (.int .i64 x.pb)).setCell ⟨b, 6, none⟩ (.int .i64 x.refs)).setCell ⟨b, 7, none⟩ (.int .i64 x.w)).setCell ⟨b, 8, none⟩ (.int .i64 x.h)
theorem sSet_blk {w : World} {b : Nat} {y : SpsD} (h : w.heap[b]? = some (sObj y)) (x : SpsD) : (sSet w b x).heap[b]? = some (sObj x) := by
  unfold sObj at h
  have h0 := setCell_blk h 0 (.int .u8 x.pr)
  have h1 := setCell_blk h0 1 (.int .u8 x.fl)
  have h2 := setCell_blk h1 2 (.int .u8 x.le)
  have h3 := setCell_blk h2 3 (.int .i64 x.id)
  have h4 := setCell_blk h3 4 (.int .i64 x.fb)
  have h5 := setCell_blk h4 5 (.int .i64 x.pb)
  have h6 := setCell_blk h5 6 (.int .i64 x.refs)
  have h7 := setCell_blk h6 7 (.int .i64 x.w)
  have h8 := setCell_blk h7 8 (.int .i64 x.h)
  simp only [List.setIfInBounds_toArray, List.set_cons_zero, List.set_cons_succ] at h8
  unfold sSet sObj
  exact h8
theorem sSet_below {W w : World} {n b : Nat} (h : Below n W w) (hb : n ≤ b) (x : SpsD) : Below n W (sSet w b x) := by
  unfold sSet
  exact ((((((((h.setCell (p := ⟨b, 0, none⟩) hb _).setCell (p := ⟨b, 1, none⟩) hb _).setCell (p := ⟨b, 2, none⟩) hb _).setCell (p := ⟨b, 3, none⟩) hb _).setCell (p := ⟨b, 4, none⟩) hb _).setCell (p := ⟨b, 5, none⟩) hb _).setCell (p := ⟨b, 6, none⟩) hb _).setCell (p := ⟨b, 7, none⟩) hb _).setCell (p := ⟨b, 8, none⟩) hb _
theorem s_free {w : World} {b : Nat} {x : SpsD} (h : w.heap[b]? = some (sObj x)) : w.frozen? ⟨b, 0, none⟩ = false ∧ w.frozen? ⟨b, 1, none⟩ = false ∧ w.frozen? ⟨b, 2, none⟩ = false ∧ w.frozen? ⟨b, 3, none⟩ = false ∧ w.frozen? ⟨b, 4, none⟩ = false ∧ w.frozen? ⟨b, 5, none⟩ = false ∧ w.frozen? ⟨b, 6, none⟩ = false ∧ w.frozen? ⟨b, 7, none⟩ = false ∧ w.frozen? ⟨b, 8, none⟩ = false := by
  simp [World.frozen?, h, sObj]
/-- A whole value is stored. -/
def pSet (w : World) (b : Nat) (x : PpsD) : World := (((((((((w.setCell ⟨b, 0, none⟩ (.int .i64 x.id)).setCell ⟨b, 1, none⟩ (.int .i64 x.sps)).setCell ⟨b, 2, none⟩ (.bool x.cab)).setCell ⟨b, 3, none⟩ (.int .i64 x.refs)).setCell ⟨b, 4, none⟩ (.int .i64 x.refs1)).setCell ⟨b, 5, none⟩ (.int .i64 x.qp)).setCell ⟨b, 6, none⟩ (.int .i64 x.qs)).setCell ⟨b, 7, none⟩ (.int .i64 x.ch)).setCell ⟨b, 8, none⟩ (.bool x.deb)).setCell ⟨b, 9, none⟩ (.bool x.intra)
theorem pSet_blk {w : World} {b : Nat} {y : PpsD} (h : w.heap[b]? = some (pObj y)) (x : PpsD) : (pSet w b x).heap[b]? = some (pObj x) := by
  unfold pObj at h
  have h0 := setCell_blk h 0 (.int .i64 x.id)
  have h1 := setCell_blk h0 1 (.int .i64 x.sps)
  have h2 := setCell_blk h1 2 (.bool x.cab)
  have h3 := setCell_blk h2 3 (.int .i64 x.refs)
  have h4 := setCell_blk h3 4 (.int .i64 x.refs1)
  have h5 := setCell_blk h4 5 (.int .i64 x.qp)
  have h6 := setCell_blk h5 6 (.int .i64 x.qs)
  have h7 := setCell_blk h6 7 (.int .i64 x.ch)
  have h8 := setCell_blk h7 8 (.bool x.deb)
  have h9 := setCell_blk h8 9 (.bool x.intra)
  simp only [List.setIfInBounds_toArray, List.set_cons_zero, List.set_cons_succ] at h9
  unfold pSet pObj
  exact h9
theorem pSet_below {W w : World} {n b : Nat} (h : Below n W w) (hb : n ≤ b) (x : PpsD) : Below n W (pSet w b x) := by
  unfold pSet
  exact (((((((((h.setCell (p := ⟨b, 0, none⟩) hb _).setCell (p := ⟨b, 1, none⟩) hb _).setCell (p := ⟨b, 2, none⟩) hb _).setCell (p := ⟨b, 3, none⟩) hb _).setCell (p := ⟨b, 4, none⟩) hb _).setCell (p := ⟨b, 5, none⟩) hb _).setCell (p := ⟨b, 6, none⟩) hb _).setCell (p := ⟨b, 7, none⟩) hb _).setCell (p := ⟨b, 8, none⟩) hb _).setCell (p := ⟨b, 9, none⟩) hb _
theorem p_free {w : World} {b : Nat} {x : PpsD} (h : w.heap[b]? = some (pObj x)) : w.frozen? ⟨b, 0, none⟩ = false ∧ w.frozen? ⟨b, 1, none⟩ = false ∧ w.frozen? ⟨b, 2, none⟩ = false ∧ w.frozen? ⟨b, 3, none⟩ = false ∧ w.frozen? ⟨b, 4, none⟩ = false ∧ w.frozen? ⟨b, 5, none⟩ = false ∧ w.frozen? ⟨b, 6, none⟩ = false ∧ w.frozen? ⟨b, 7, none⟩ = false ∧ w.frozen? ⟨b, 8, none⟩ = false ∧ w.frozen? ⟨b, 9, none⟩ = false := by
  simp [World.frozen?, h, pObj]


theorem sps_any (id refs : Int) (w : World) : Calls Try.prog 12 #[.int .i64 id, .int .i64 refs] w fun e w' => e = .returned (sv (sW id refs)) ∧ Below w.heap.size w w' := by
  obtain ⟨w0, hw0⟩ : ∃ v, v = w.alloc (sObj s00) := ⟨_, rfl⟩
  have hk0 : w0.heap[w.heap.size]? = some (sObj s00) := by rw [hw0]; exact blk0 w _
  have hs0 : w0.heap.size = w.heap.size + 1 := by rw [hw0]; simp
  have hb0 : Below w.heap.size w w0 := by rw [hw0]; exact (Below.refl _ _).alloc (Nat.le_refl _) _
  have HW0 := Lib.hid hw0
  have HK0 := Lib.hid hk0
  have HS0 := Lib.hid hs0
  have HB0 := Lib.hid hb0
  simp only [sObj] at hw0
  have hw0' := hw0.symm
  clear hw0 hk0 hs0 hb0
  go_enter Try.func12, Try.ntmps12
  go_wp2_with (first | (go_at_call 23; (with_reducible refine (plain_s _).mono ?_); rintro e w1 ⟨rfl, hbl⟩; (try rw [hw0'] at hbl); have hK1 := blk_old (sObj (sW id refs)) ((hbl.block _ (by rw [HS0.out]; omega)).trans HK0.out); obtain ⟨c0, c1, c2, c3, c4, c5, c6, c7, c8⟩ := s_cells hK1; obtain ⟨f0, f1, f2, f3, f4, f5, f6, f7, f8⟩ := s_free hK1; have HK1 := Lib.hid hK1; have HBL := Lib.hid hbl; clear hK1 hbl; simp only [sObj] at c0 c1 c2 c3 c4 c5 c6 c7 c8 f0 f1 f2 f3 f4 f5 f6 f7 f8))
  have hfin : ∀ v, v = sSet (w1.alloc (sObj (sW id refs))) w.heap.size (sW id refs) → (loadVar 29 ⟨w.heap.size, 0, none⟩).run Try.prog v = .ok (sv (sW id refs)) v ∧ Below w.heap.size w v := by
    rintro v rfl
    have hB : Below w.heap.size w w1 := HB0.out.trans (HBL.out.mono (by rw [HS0.out]; omega))
    exact ⟨load_s (sSet_blk HK1.out _), sSet_below (hB.alloc hB.size _) (Nat.le_refl _) _⟩
  obtain ⟨q1, q2⟩ := hfin _ rfl
  exact bodyPost_ret (results_cell1 rfl rfl q1) rfl ⟨rfl, q2⟩

theorem pps_any (id sps : Int) (w : World) : Calls Try.prog 11 #[.int .i64 id, .int .i64 sps] w fun e w' => e = .returned (pv (pW id sps)) ∧ Below w.heap.size w w' := by
  obtain ⟨w0, hw0⟩ : ∃ v, v = w.alloc (pObj p00) := ⟨_, rfl⟩
  have hk0 : w0.heap[w.heap.size]? = some (pObj p00) := by rw [hw0]; exact blk0 w _
  have hs0 : w0.heap.size = w.heap.size + 1 := by rw [hw0]; simp
  have hb0 : Below w.heap.size w w0 := by rw [hw0]; exact (Below.refl _ _).alloc (Nat.le_refl _) _
  have HW0 := Lib.hid hw0
  have HK0 := Lib.hid hk0
  have HS0 := Lib.hid hs0
  have HB0 := Lib.hid hb0
  simp only [pObj] at hw0
  have hw0' := hw0.symm
  clear hw0 hk0 hs0 hb0
  go_enter Try.func11, Try.ntmps11
  go_wp2_with (first | (go_at_call 24; (with_reducible refine (plain_p _).mono ?_); rintro e w1 ⟨rfl, hbl⟩; (try rw [hw0'] at hbl); have hK1 := blk_old (pObj (pW id sps)) ((hbl.block _ (by rw [HS0.out]; omega)).trans HK0.out); obtain ⟨c0, c1, c2, c3, c4, c5, c6, c7, c8, c9⟩ := p_cells hK1; obtain ⟨f0, f1, f2, f3, f4, f5, f6, f7, f8, f9⟩ := p_free hK1; have HK1 := Lib.hid hK1; have HBL := Lib.hid hbl; clear hK1 hbl; simp only [pObj] at c0 c1 c2 c3 c4 c5 c6 c7 c8 c9 f0 f1 f2 f3 f4 f5 f6 f7 f8 f9))
  have hfin : ∀ v, v = pSet (w1.alloc (pObj (pW id sps))) w.heap.size (pW id sps) → (loadVar 26 ⟨w.heap.size, 0, none⟩).run Try.prog v = .ok (pv (pW id sps)) v ∧ Below w.heap.size w v := by
    rintro v rfl
    have hB : Below w.heap.size w w1 := HB0.out.trans (HBL.out.mono (by rw [HS0.out]; omega))
    exact ⟨load_p (pSet_blk HK1.out _), pSet_below (hB.alloc hB.size _) (Nat.le_refl _) _⟩
  obtain ⟨q1, q2⟩ := hfin _ rfl
  exact bodyPost_ret (results_cell1 rfl rfl q1) rfl ⟨rfl, q2⟩

end Go.Proofs.Ytakpafmhdgnlmaa
