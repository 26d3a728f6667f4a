/- ue, se, u: the closures that Decode calls. -/
import Derived.Test.YtkaoeilijdeioaaYr
namespace Go.Proofs.Ytkaoeilijdeioaa
open Go.RowKit
set_option linter.unusedVariables false
set_option maxRecDepth 100000
set_option linter.unusedSimpArgs false

theorem Hp.sw7 {W w : World} {L : List AObj} {F : List (Nat × Obj)} {a b : Nat × Obj} (h : Hp W w L (a :: b :: F)) : Hp W w L (b :: a :: F) := h.reorder (List.Perm.swap _ _ _)
theorem Hp.sw8 {W w : World} {L : List AObj} {F : List (Nat × Obj)} {a b c : Nat × Obj} (h : Hp W w L (a :: b :: c :: F)) : Hp W w L (c :: a :: b :: F) := h.reorder (List.perm_middle (l₁ := [a, b]))
theorem sg_bnd {s : ByteArray} {lo hi : Int} {q : Int × Nat} {v : Int} {q' : Int × Nat} (h : sgR s lo hi q = (v, q')) : -4294967296 ≤ v ∧ v ≤ 4294967296 := by
  unfold sgR at h
  split at h
  · have := ueV_lt s q.2
    obtain ⟨rfl, -⟩ := Prod.mk.inj h
    unfold seV
    split <;> omega
  · obtain ⟨rfl, -⟩ := Prod.mk.inj h
    omega
section
variable {W w : World} {L : List AObj} {F : List (Nat × Obj)} {eb : Nat}
theorem due_any {e : Int} (h : Hp W w L ((eb, fOb e) :: F)) {k r : Nat} {s : ByteArray} {i : Nat} (hk : L[k]? = some (aRd r s i)) {rb : Nat} {tr : TypeId} (hr : (rb, Obj.cells #[.pointer (some ⟨r, 0, none⟩)] tr (0, 0)) ∈ F) (m : Nat) (wr : Int) {v : Nat} {e' : Int} {i' : Nat} (hx : nmR s m wr (e, i) = (v, e', i')) :
    Calls Try.prog 37 #[.int .u64 m, .int .i64 wr, .pointer (some ⟨eb, 0, none⟩), .pointer (some ⟨rb, 0, none⟩)] w fun ex w' => ex = .returned (.int .i64 v) ∧ Hp W w' (L.set k (aRd r s i')) ((eb, fOb e') :: F) := by
  have hlt := nmR_lt hx
  have w2 : IntKind.i64.wrap (v : Int) = (v : Int) := by rw [IntKind.wrap_i64]; omega
  have hG := get_ue ((h.alloc (.cells #[.int .u64 (m : Int)] 48 (0, 0))).sw7) hk (List.mem_cons_of_mem _ hr) (List.mem_cons_self ..) wr hx
  have HG := Lib.hid hG
  clear h hk hr hx hlt hG
  go_enter Try.func37, Try.ntmps37
  go_wp2_with (first | (go_at_call 38; (with_reducible refine HG.out.mono ?_); rintro e w1 ⟨rfl, hS⟩))
  exact bodyPost_ret (results_tmp rfl _ _ _) rfl ⟨rfl, hS.sw7.drop⟩
theorem du_any {e : Int} (h : Hp W w L ((eb, fOb e) :: F)) {k r : Nat} {s : ByteArray} {i : Nat} (hk : L[k]? = some (aRd r s i)) {rb : Nat} {tr : TypeId} (hr : (rb, Obj.cells #[.pointer (some ⟨r, 0, none⟩)] tr (0, 0)) ∈ F) (n : Int) (m : Nat) {v : Nat} {e' : Int} {i' : Nat} (hx : ubR s n m (e, i) = (v, e', i')) {b : Bool} (hb : (v == 1) = b) :
    Calls Try.prog 47 #[.int .i64 n, .int .u64 m, .pointer (some ⟨eb, 0, none⟩), .pointer (some ⟨rb, 0, none⟩)] w fun ex w' => ex = .returned (.bool b) ∧ Hp W w' (L.set k (aRd r s i')) ((eb, fOb e') :: F) := by
  have D : ((v : Int) == 1) = b := by rw [← hb, Bool.eq_iff_iff, beq_iff_eq, beq_iff_eq]; omega
  have h2 := ((h.alloc (.cells #[.int .i64 n] 3 (0, 0))).alloc (.cells #[.int .u64 (m : Int)] 48 (0, 0))).sw8
  simp only [World.size_alloc] at h2
  have hG := get_u h2 hk (List.mem_cons_of_mem _ (List.mem_cons_of_mem _ hr)) (List.mem_cons_of_mem _ (List.mem_cons_self ..)) (List.mem_cons_self ..) hx
  have HG := Lib.hid hG
  clear h hk hr hx hG h2
  go_enter Try.func47, Try.ntmps47
  go_wp2_with (first | (go_at_call 38; (with_reducible refine HG.out.mono ?_); rintro e w1 ⟨rfl, hS⟩))
  exact bodyPost_ret (results_tmp rfl _ _ _) rfl ⟨rfl, hS.sw8.sw8.drop.drop⟩
theorem dse_any {e : Int} (h : Hp W w L ((eb, fOb e) :: F)) {k r : Nat} {s : ByteArray} {i : Nat} (hk : L[k]? = some (aRd r s i)) {rb : Nat} {tr : TypeId} (hr : (rb, Obj.cells #[.pointer (some ⟨r, 0, none⟩)] tr (0, 0)) ∈ F) (lo hi : Int) {v : Int} {e' : Int} {i' : Nat} (hx : sgR s lo hi (e, i) = (v, e', i')) :
    Calls Try.prog 42 #[.int .i64 lo, .int .i64 hi, .pointer (some ⟨eb, 0, none⟩), .pointer (some ⟨rb, 0, none⟩)] w fun ex w' => ex = .returned (.int .i64 v) ∧ Hp W w' (L.set k (aRd r s i')) ((eb, fOb e') :: F) := by
  obtain ⟨v1, v2⟩ := sg_bnd hx
  have w2 : IntKind.i64.wrap v = v := by rw [IntKind.wrap_i64]; omega
  have h2 := ((h.alloc (.cells #[.int .i64 lo] 2 (0, 0))).alloc (.cells #[.int .i64 hi] 2 (0, 0))).sw8
  simp only [World.size_alloc] at h2
  have hG := get_se h2 hk (List.mem_cons_of_mem _ (List.mem_cons_of_mem _ hr)) (List.mem_cons_of_mem _ (List.mem_cons_self ..)) (List.mem_cons_self ..) hx
  have HG := Lib.hid hG
  clear h hk hr hx hG h2
  go_enter Try.func42, Try.ntmps42
  go_wp2_with (first | (go_at_call 43; (with_reducible refine HG.out.mono ?_); rintro e w1 ⟨rfl, hS⟩))
  exact bodyPost_ret (results_tmp rfl _ _ _) rfl ⟨rfl, hS.sw8.sw8.drop.drop⟩
end
/-- A bit that has to be so: as the reference reads it. -/
theorem ub_any {s : ByteArray} {n : Nat} {e : Int} {i v : Nat} {e1 : Int} {i1 : Nat} {e' : Int} {i' : Nat} (h1 : fxR s n (e, i) = (v, e1, i1)) (h2 : kdR (decide (v = 0)) 9 (e1, i1) = (e', i')) : ubR s n 0 (e, i) = (v, e', i') := by
  by_cases he : e = 0
  · subst he
    rw [fxR_zero] at h1
    obtain ⟨x1, x2⟩ := Prod.mk.inj h1
    obtain ⟨x2, x3⟩ := Prod.mk.inj x2
    rw [ubR_zero, x1, x2, x3]
    unfold kdR at h2
    unfold lkE
    by_cases h0 : e1 = 0
    · subst h0
      by_cases hv : v = 0
      · rw [if_neg (by simp [hv])] at h2
        rw [if_pos rfl, if_neg (by omega)]
        rw [← h2]
      · rw [if_pos ⟨rfl, decide_eq_false hv⟩] at h2
        rw [if_pos rfl, if_pos (by omega)]
        rw [← h2]
    · rw [if_neg (fun hh => h0 hh.1)] at h2
      rw [if_neg h0, ← h2]
  · rw [fxR_not _ _ _ he] at h1
    obtain ⟨rfl, x2⟩ := Prod.mk.inj h1
    obtain ⟨rfl, rfl⟩ := Prod.mk.inj x2
    rw [ubR_not _ _ _ _ he]
    unfold kdR at h2
    rw [if_neg (fun hh => he hh.1)] at h2
    rw [← h2]
/-- A bit, whatever it is. -/
theorem ub_one {s : ByteArray} {e : Int} {i v : Nat} {e1 : Int} {i1 : Nat} (h1 : fxR s 1 (e, i) = (v, e1, i1)) : ubR s 1 1 (e, i) = (v, e1, i1) := by
  have hv := fxR_lt h1
  by_cases he : e = 0
  · subst he
    rw [fxR_zero] at h1
    obtain ⟨x1, x2⟩ := Prod.mk.inj h1
    obtain ⟨x2, x3⟩ := Prod.mk.inj x2
    have e0 := ubR_zero s 1 1 i
    rw [e0]
    have y1 : uV s i 1 = v := x1
    have y2 : uE s i 1 = e1 := x2
    have y3 : uI s i 1 = i1 := x3
    rw [y1, y2, y3]
    unfold lkE
    by_cases h0 : e1 = 0
    · rw [if_pos h0, if_neg (by omega), h0]
    · rw [if_neg h0]
  · rw [fxR_not _ _ _ he] at h1
    rw [ubR_not _ _ _ _ he]
    exact h1
end Go.Proofs.Ytkaoeilijdeioaa
