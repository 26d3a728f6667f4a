/- get with the closures of Decode. -/
import Derived.Test.YtkaoeilijdeioaaYq
namespace Go.Proofs.Ytkaoeilijdeioaa
open Go.RowKit
set_option linter.unusedVariables false
set_option maxRecDepth 100000
set_option linter.unusedSimpArgs false

/-- Reading a number of n bits, at most m. -/
def ubR (s : ByteArray) (n : Int) (m : Nat) (q : Int × Nat) : Nat × Int × Nat := if q.1 = 0 then (uV s q.2 n, lkE (uE s q.2 n) (uV s q.2 n) m 9, uI s q.2 n) else (0, q.1, q.2)
theorem ubR_zero (s : ByteArray) (n : Int) (m i : Nat) : ubR s n m (0, i) = (uV s i n, lkE (uE s i n) (uV s i n) m 9, uI s i n) := rfl
theorem ubR_not (s : ByteArray) (n : Int) (m : Nat) {e : Int} (i : Nat) (h : e ≠ 0) : ubR s n m (e, i) = (0, e, i) := by unfold ubR; rw [if_neg h]
theorem vl2_any {W w : World} {L : List AObj} {F : List (Nat × Obj)} (h : Hp W w L F) {lb hb : Nat} {tl th : TypeId} {lo hi : Int} (hl : (lb, Obj.cells #[.int .i64 lo] tl (0, 0)) ∈ F) (hh : (hb, Obj.cells #[.int .i64 hi] th (0, 0)) ∈ F) (v : Int) {b : Bool} (hb' : decide (lo ≤ v ∧ v ≤ hi) = b) :
    Calls Try.prog 46 #[.int .i64 v, .pointer (some ⟨lb, 0, none⟩), .pointer (some ⟨hb, 0, none⟩)] w fun ex w' => ex = .returned (.bool b) ∧ Hp W w' L F := by
  obtain ⟨c1, -⟩ := one_cell (h.blk hl)
  obtain ⟨c2, -⟩ := one_cell (h.blk hh)
  have H := Lib.hid h
  clear h hl hh
  by_cases d1 : lo ≤ v
  · by_cases d2 : v ≤ hi
    · obtain rfl : b = true := by rw [← hb']; simp; omega
      clear hb'
      go_enter Try.func46, Try.ntmps46
      go_wp2_with (fail)
      exact bodyPost_ret (results_tmp rfl _ _ _) rfl ⟨rfl, H.out⟩
    · obtain rfl : b = false := by rw [← hb']; simp; omega
      clear hb'
      go_enter Try.func46, Try.ntmps46
      go_wp2_with (fail)
      exact bodyPost_ret (results_tmp rfl _ _ _) rfl ⟨rfl, H.out⟩
  · obtain rfl : b = false := by rw [← hb']; simp; omega
    clear hb'
    go_enter Try.func46, Try.ntmps46
    go_wp2_with (fail)
    exact bodyPost_ret (results_tmp rfl _ _ _) rfl ⟨rfl, H.out⟩
section
variable {W w : World} {L : List AObj} {F : List (Nat × Obj)} {eb : Nat}
set_option maxHeartbeats 1000000 in
theorem get_ue {e : Int} (h : Hp W w L ((eb, fOb e) :: F)) {k r : Nat} {s : ByteArray} {i : Nat} (hk : L[k]? = some (aRd r s i)) {rb : Nat} {tr : TypeId} (hr : (rb, Obj.cells #[.pointer (some ⟨r, 0, none⟩)] tr (0, 0)) ∈ F) {mb : Nat} {tm : TypeId} {m : Nat} (hm : (mb, Obj.cells #[.int .u64 (m : Int)] tm (0, 0)) ∈ F) (wr : Int) {v : Nat} {e' : Int} {i' : Nat} (hx : nmR s m wr (e, i) = (v, e', i')) :
    Calls Try.prog 38 #[.pointer (some ⟨eb, 0, none⟩), .func (.func 39) #[] #[.pointer (some ⟨rb, 0, none⟩)], .func (.func 41) #[] #[.pointer (some ⟨mb, 0, none⟩)], .int .i64 wr] w fun ex w' => ex = .returned (.int .u64 v) ∧ Hp W w' (L.set k (aRd r s i')) ((eb, fOb e') :: F) := by
  obtain ⟨c0, f0⟩ := one_cell (h.blk (List.mem_cons_self ..))
  have HK := Lib.hid hk
  have HM := Lib.hid (And.intro hr hm)
  by_cases he : e = 0
  · subst he
    rw [nmR_zero] at hx
    obtain ⟨x1, x2⟩ := Prod.mk.inj hx
    obtain ⟨x2, x3⟩ := Prod.mk.inj x2
    obtain ⟨z, hz⟩ : ∃ z, ueE s i = z := ⟨_, rfl⟩
    rw [hz, x1] at x2
    have H := Lib.hid h
    have X := Lib.hid (And.intro x1 (And.intro hz x3))
    clear h hk hr hm hx x1 x3 hz
    by_cases z0 : z = 0
    · subst z0
      by_cases hb : v ≤ m
      · have HB : Hid (decide (v ≤ m) = true) := Lib.hid (decide_eq_true hb)
        obtain rfl : e' = 0 := by rw [← x2]; unfold lkE; rw [if_pos rfl, if_neg (by omega)]
        clear x2 hb
        go_enter Try.func38, Try.ntmps38
        go_wp2_with (first | (go_at_call 39; (with_reducible refine (rdue_any H.out HK.out (List.mem_cons_of_mem _ HM.out.1) X.out).mono ?_); rintro e w1 ⟨rfl, hS⟩; clear c0 f0; obtain ⟨c0, f0⟩ := one_cell (hS.blk (List.mem_cons_self ..))) | (go_at_call 41; (with_reducible refine (vl1_any hS (List.mem_cons_of_mem _ HM.out.2) v HB.out).mono ?_); rintro e w2 ⟨rfl, hT⟩; clear c0 f0; obtain ⟨c0, f0⟩ := one_cell (hT.blk (List.mem_cons_self ..))))
        exact bodyPost_ret (results_tmp rfl _ _ _) rfl ⟨rfl, hT⟩
      · have HB : Hid (decide (v ≤ m) = false) := Lib.hid (decide_eq_false hb)
        obtain rfl : e' = wr := by rw [← x2]; unfold lkE; rw [if_pos rfl, if_pos (by omega)]
        clear x2 hb
        go_enter Try.func38, Try.ntmps38
        go_wp2_with (first | (go_at_call 39; (with_reducible refine (rdue_any H.out HK.out (List.mem_cons_of_mem _ HM.out.1) X.out).mono ?_); rintro e w1 ⟨rfl, hS⟩; clear c0 f0; obtain ⟨c0, f0⟩ := one_cell (hS.blk (List.mem_cons_self ..))) | (go_at_call 41; (with_reducible refine (vl1_any hS (List.mem_cons_of_mem _ HM.out.2) v HB.out).mono ?_); rintro e w2 ⟨rfl, hT⟩; clear c0 f0; obtain ⟨c0, f0⟩ := one_cell (hT.blk (List.mem_cons_self ..))))
        exact bodyPost_ret (results_tmp rfl _ _ _) rfl ⟨rfl, hT.f_set _⟩
    · have d1 : (z == 0) = false := by simp [z0]
      have d2 : (z != 0) = true := by simp [z0]
      obtain rfl : e' = z := by rw [← x2]; unfold lkE; rw [if_neg z0]
      clear x2
      go_enter Try.func38, Try.ntmps38
      go_wp2_with (first | (go_at_call 39; (with_reducible refine (rdue_any H.out HK.out (List.mem_cons_of_mem _ HM.out.1) X.out).mono ?_); rintro e w1 ⟨rfl, hS⟩; clear c0 f0; obtain ⟨c0, f0⟩ := one_cell (hS.blk (List.mem_cons_self ..))))
      exact bodyPost_ret (results_tmp rfl _ _ _) rfl ⟨rfl, hS.f_set _⟩
  · have d1 : (e == 0) = false := by simp [he]
    have d2 : (e != 0) = true := by simp [he]
    rw [nmR_not _ _ _ _ he] at hx
    obtain ⟨rfl, x2⟩ := Prod.mk.inj hx
    obtain ⟨rfl, rfl⟩ := Prod.mk.inj x2
    have H := Lib.hid h
    clear h hk hr hm x2 hx
    go_enter Try.func38, Try.ntmps38
    go_wp2_with (fail)
    exact bodyPost_ret (results_tmp rfl _ _ _) rfl ⟨rfl, by rw [set_same HK.out]; exact H.out⟩
set_option maxHeartbeats 1000000 in
theorem get_u {e : Int} (h : Hp W w L ((eb, fOb e) :: F)) {k r : Nat} {s : ByteArray} {i : Nat} (hk : L[k]? = some (aRd r s i)) {rb : Nat} {tr : TypeId} (hr : (rb, Obj.cells #[.pointer (some ⟨r, 0, none⟩)] tr (0, 0)) ∈ F) {mb nb : Nat} {tm tn : TypeId} {m : Nat} {n : Int} (hn : (nb, Obj.cells #[.int .i64 n] tn (0, 0)) ∈ F) (hm : (mb, Obj.cells #[.int .u64 (m : Int)] tm (0, 0)) ∈ F) {v : Nat} {e' : Int} {i' : Nat} (hx : ubR s n m (e, i) = (v, e', i')) :
    Calls Try.prog 38 #[.pointer (some ⟨eb, 0, none⟩), .func (.func 48) #[] #[.pointer (some ⟨rb, 0, none⟩), .pointer (some ⟨nb, 0, none⟩)], .func (.func 50) #[] #[.pointer (some ⟨mb, 0, none⟩)], .int .i64 9] w fun ex w' => ex = .returned (.int .u64 v) ∧ Hp W w' (L.set k (aRd r s i')) ((eb, fOb e') :: F) := by
  obtain ⟨c0, f0⟩ := one_cell (h.blk (List.mem_cons_self ..))
  have HK := Lib.hid hk
  have HM := Lib.hid (And.intro hr (And.intro hn hm))
  by_cases he : e = 0
  · subst he
    rw [ubR_zero] at hx
    obtain ⟨x1, x2⟩ := Prod.mk.inj hx
    obtain ⟨x2, x3⟩ := Prod.mk.inj x2
    obtain ⟨z, hz⟩ : ∃ z, uE s i n = z := ⟨_, rfl⟩
    rw [hz, x1] at x2
    have H := Lib.hid h
    have X := Lib.hid (And.intro x1 (And.intro hz x3))
    clear h hk hr hn hm hx x1 x3 hz
    by_cases z0 : z = 0
    · subst z0
      by_cases hb : v ≤ m
      · have HB : Hid (decide (v ≤ m) = true) := Lib.hid (decide_eq_true hb)
        obtain rfl : e' = 0 := by rw [← x2]; unfold lkE; rw [if_pos rfl, if_neg (by omega)]
        clear x2 hb
        go_enter Try.func38, Try.ntmps38
        go_wp2_with (first | (go_at_call 48; (with_reducible refine (rdu_any H.out HK.out (List.mem_cons_of_mem _ HM.out.1) (List.mem_cons_of_mem _ HM.out.2.1) X.out).mono ?_); rintro e w1 ⟨rfl, hS⟩; clear c0 f0; obtain ⟨c0, f0⟩ := one_cell (hS.blk (List.mem_cons_self ..))) | (go_at_call 50; (with_reducible refine (vl3_any hS (List.mem_cons_of_mem _ HM.out.2.2) v HB.out).mono ?_); rintro e w2 ⟨rfl, hT⟩; clear c0 f0; obtain ⟨c0, f0⟩ := one_cell (hT.blk (List.mem_cons_self ..))))
        exact bodyPost_ret (results_tmp rfl _ _ _) rfl ⟨rfl, hT⟩
      · have HB : Hid (decide (v ≤ m) = false) := Lib.hid (decide_eq_false hb)
        obtain rfl : e' = 9 := by rw [← x2]; unfold lkE; rw [if_pos rfl, if_pos (by omega)]
        clear x2 hb
        go_enter Try.func38, Try.ntmps38
        go_wp2_with (first | (go_at_call 48; (with_reducible refine (rdu_any H.out HK.out (List.mem_cons_of_mem _ HM.out.1) (List.mem_cons_of_mem _ HM.out.2.1) X.out).mono ?_); rintro e w1 ⟨rfl, hS⟩; clear c0 f0; obtain ⟨c0, f0⟩ := one_cell (hS.blk (List.mem_cons_self ..))) | (go_at_call 50; (with_reducible refine (vl3_any hS (List.mem_cons_of_mem _ HM.out.2.2) v HB.out).mono ?_); rintro e w2 ⟨rfl, hT⟩; clear c0 f0; obtain ⟨c0, f0⟩ := one_cell (hT.blk (List.mem_cons_self ..))))
        exact bodyPost_ret (results_tmp rfl _ _ _) rfl ⟨rfl, hT.f_set _⟩
    · have d1 : (z == 0) = false := by simp [z0]
      have d2 : (z != 0) = true := by simp [z0]
      obtain rfl : e' = z := by rw [← x2]; unfold lkE; rw [if_neg z0]
      clear x2
      go_enter Try.func38, Try.ntmps38
      go_wp2_with (first | (go_at_call 48; (with_reducible refine (rdu_any H.out HK.out (List.mem_cons_of_mem _ HM.out.1) (List.mem_cons_of_mem _ HM.out.2.1) X.out).mono ?_); rintro e w1 ⟨rfl, hS⟩; clear c0 f0; obtain ⟨c0, f0⟩ := one_cell (hS.blk (List.mem_cons_self ..))))
      exact bodyPost_ret (results_tmp rfl _ _ _) rfl ⟨rfl, hS.f_set _⟩
  · have d1 : (e == 0) = false := by simp [he]
    have d2 : (e != 0) = true := by simp [he]
    rw [ubR_not _ _ _ _ he] at hx
    obtain ⟨rfl, x2⟩ := Prod.mk.inj hx
    obtain ⟨rfl, rfl⟩ := Prod.mk.inj x2
    have H := Lib.hid h
    clear h hk hr hn hm x2 hx
    go_enter Try.func38, Try.ntmps38
    go_wp2_with (fail)
    exact bodyPost_ret (results_tmp rfl _ _ _) rfl ⟨rfl, by rw [set_same HK.out]; exact H.out⟩
set_option maxHeartbeats 1000000 in
theorem get_se {e : Int} (h : Hp W w L ((eb, fOb e) :: F)) {k r : Nat} {s : ByteArray} {i : Nat} (hk : L[k]? = some (aRd r s i)) {rb : Nat} {tr : TypeId} (hr : (rb, Obj.cells #[.pointer (some ⟨r, 0, none⟩)] tr (0, 0)) ∈ F) {lb hb : Nat} {tl th : TypeId} {lo hi : Int} (hl : (lb, Obj.cells #[.int .i64 lo] tl (0, 0)) ∈ F) (hh : (hb, Obj.cells #[.int .i64 hi] th (0, 0)) ∈ F) {v : Int} {e' : Int} {i' : Nat} (hx : sgR s lo hi (e, i) = (v, e', i')) :
    Calls Try.prog 43 #[.pointer (some ⟨eb, 0, none⟩), .func (.func 44) #[] #[.pointer (some ⟨rb, 0, none⟩)], .func (.func 46) #[] #[.pointer (some ⟨lb, 0, none⟩), .pointer (some ⟨hb, 0, none⟩)], .int .i64 3] w fun ex w' => ex = .returned (.int .i64 v) ∧ Hp W w' (L.set k (aRd r s i')) ((eb, fOb e') :: F) := by
  obtain ⟨c0, f0⟩ := one_cell (h.blk (List.mem_cons_self ..))
  have HK := Lib.hid hk
  have HM := Lib.hid (And.intro hr (And.intro hl hh))
  by_cases he : e = 0
  · subst he
    rw [sgR_zero] at hx
    obtain ⟨x1, x2⟩ := Prod.mk.inj hx
    obtain ⟨x2, x3⟩ := Prod.mk.inj x2
    obtain ⟨z, hz⟩ : ∃ z, ueE s i = z := ⟨_, rfl⟩
    rw [hz, x1] at x2
    have H := Lib.hid h
    have X := Lib.hid (And.intro x1 (And.intro hz x3))
    clear h hk hr hl hh hx x1 x3 hz
    by_cases z0 : z = 0
    · subst z0
      by_cases hb : lo ≤ v ∧ v ≤ hi
      · have HB : Hid (decide (lo ≤ v ∧ v ≤ hi) = true) := Lib.hid (decide_eq_true hb)
        obtain rfl : e' = 0 := by rw [← x2]; unfold sgE; rw [if_pos rfl, if_pos hb]
        clear x2 hb
        go_enter Try.func43, Try.ntmps43
        go_wp2_with (first | (go_at_call 44; (with_reducible refine (rdse_any H.out HK.out (List.mem_cons_of_mem _ HM.out.1) X.out).mono ?_); rintro e w1 ⟨rfl, hS⟩; clear c0 f0; obtain ⟨c0, f0⟩ := one_cell (hS.blk (List.mem_cons_self ..))) | (go_at_call 46; (with_reducible refine (vl2_any hS (List.mem_cons_of_mem _ HM.out.2.1) (List.mem_cons_of_mem _ HM.out.2.2) v HB.out).mono ?_); rintro e w2 ⟨rfl, hT⟩; clear c0 f0; obtain ⟨c0, f0⟩ := one_cell (hT.blk (List.mem_cons_self ..))))
        exact bodyPost_ret (results_tmp rfl _ _ _) rfl ⟨rfl, hT⟩
      · have HB : Hid (decide (lo ≤ v ∧ v ≤ hi) = false) := Lib.hid (decide_eq_false hb)
        obtain rfl : e' = 3 := by rw [← x2]; unfold sgE; rw [if_pos rfl, if_neg hb]
        clear x2 hb
        go_enter Try.func43, Try.ntmps43
        go_wp2_with (first | (go_at_call 44; (with_reducible refine (rdse_any H.out HK.out (List.mem_cons_of_mem _ HM.out.1) X.out).mono ?_); rintro e w1 ⟨rfl, hS⟩; clear c0 f0; obtain ⟨c0, f0⟩ := one_cell (hS.blk (List.mem_cons_self ..))) | (go_at_call 46; (with_reducible refine (vl2_any hS (List.mem_cons_of_mem _ HM.out.2.1) (List.mem_cons_of_mem _ HM.out.2.2) v HB.out).mono ?_); rintro e w2 ⟨rfl, hT⟩; clear c0 f0; obtain ⟨c0, f0⟩ := one_cell (hT.blk (List.mem_cons_self ..))))
        exact bodyPost_ret (results_tmp rfl _ _ _) rfl ⟨rfl, hT.f_set _⟩
    · have d1 : (z == 0) = false := by simp [z0]
      have d2 : (z != 0) = true := by simp [z0]
      obtain rfl : e' = z := by rw [← x2]; unfold sgE; rw [if_neg z0]
      clear x2
      go_enter Try.func43, Try.ntmps43
      go_wp2_with (first | (go_at_call 44; (with_reducible refine (rdse_any H.out HK.out (List.mem_cons_of_mem _ HM.out.1) X.out).mono ?_); rintro e w1 ⟨rfl, hS⟩; clear c0 f0; obtain ⟨c0, f0⟩ := one_cell (hS.blk (List.mem_cons_self ..))))
      exact bodyPost_ret (results_tmp rfl _ _ _) rfl ⟨rfl, hS.f_set _⟩
  · have d1 : (e == 0) = false := by simp [he]
    have d2 : (e != 0) = true := by simp [he]
    rw [sgR_not _ _ _ _ he] at hx
    obtain ⟨rfl, x2⟩ := Prod.mk.inj hx
    obtain ⟨rfl, rfl⟩ := Prod.mk.inj x2
    have H := Lib.hid h
    clear h hk hr hl hh x2 hx
    go_enter Try.func43, Try.ntmps43
    go_wp2_with (fail)
    exact bodyPost_ret (results_tmp rfl _ _ _) rfl ⟨rfl, by rw [set_same HK.out]; exact H.out⟩
end
end Go.Proofs.Ytkaoeilijdeioaa
