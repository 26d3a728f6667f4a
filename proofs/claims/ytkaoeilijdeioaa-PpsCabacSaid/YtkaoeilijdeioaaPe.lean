/- The reference's Scan. -/
import Derived.Test.YtkaoeilijdeioaaPz
import Derived.Test.YtkaoeilijdeioaaTq
namespace Go.Proofs.Ytkaoeilijdeioaa
open Go.RowKit
set_option linter.unusedVariables false
set_option maxRecDepth 100000
set_option linter.unusedSimpArgs false

/-- A scan over the reader at block r with first error e. -/
@[reducible] def scOb (r : Nat) (e : Int) : Obj := .cells #[.pointer (some ⟨r, 0, none⟩), .int .i64 e] 82 (0, 0)
section
variable {W w : World} {L : List AObj} {F : List (Nat × Obj)} {sb : Nat}
theorem Hp.sc_set {r : Nat} {e : Int} (h : Hp W w L ((sb, scOb r e) :: F)) (e' : Int) : Hp W (w.setCell ⟨sb, 1, none⟩ (.int .i64 e')) L ((sb, scOb r e') :: F) := h.set 0 rfl 1 _

theorem scu_any {e : Int} {r : Nat} (h : Hp W w L ((sb, scOb r e) :: F)) {k : Nat} {s : ByteArray} {i : Nat} (hk : L[k]? = some (aQrd r s i)) (n : Nat) (hn : n ≤ 8) {v : Nat} {e' : Int} {i' : Nat} (hx : fxR s n (e, i) = (v, e', i')) :
    Calls Try.prog 54 #[.pointer (some ⟨sb, 0, none⟩), .int .i64 n] w fun ex w' => ex = .returned (.int .i64 v) ∧ Hp W w' (L.set k (aQrd r s i')) ((sb, scOb r e') :: F) := by
  obtain ⟨c0, c1, f0, f1⟩ := cells_two (h.blk (List.mem_cons_self ..))
  by_cases he : e = 0
  · subst he
    have hlt := fxR_lt hx
    have hlt8 : v < 9223372036854775808 := Nat.lt_of_lt_of_le hlt (by have := Nat.pow_le_pow_right (n := 2) (by omega) hn; omega)
    have w2 : IntKind.i64.wrap (v : Int) = (v : Int) := by rw [IntKind.wrap_i64]; omega
    rw [fxR_zero] at hx
    obtain ⟨x1, x2⟩ := Prod.mk.inj hx
    obtain ⟨x2, x3⟩ := Prod.mk.inj x2
    have H := Lib.hid h
    have HK := Lib.hid hk
    have X := Lib.hid (And.intro x1 (And.intro x2 x3))
    have hG : ∀ w L F, Hp W w L F → L[k]? = some (aQrd r s i) → Calls Try.prog 69 #[.pointer (some ⟨r, 0, none⟩), .int .i64 n] w fun e w' => e = .returned (.tuple #[.int .u64 v, .int .i64 e']) ∧ Hp W w' (L.set k (aQrd r s i')) F := fun w L F h hk => by
      obtain ⟨y1, y2, y3⟩ := X.out
      have := qu_any h k hk n
      rwa [y1, y2, y3] at this
    have HG := Lib.hid hG
    clear h hk x1 x2 x3 hx hlt hlt8 hG
    go_enter Try.func54, Try.ntmps54
    go_wp2_with (first | (go_at_call 69; (with_reducible refine (HG.out _ _ _ H.out HK.out).mono ?_); rintro e w1 ⟨rfl, hS⟩; obtain ⟨g0, g1, g2, g3⟩ := cells_two (hS.blk (List.mem_cons_self ..)); clear c0 c1 f0 f1))
    exact bodyPost_ret (results_tmp rfl _ _ _) rfl ⟨rfl, hS.sc_set _⟩
  · have d1 : (e == 0) = false := by simp [he]
    rw [fxR_not _ _ _ he] at hx
    obtain ⟨rfl, x2⟩ := Prod.mk.inj hx
    obtain ⟨rfl, rfl⟩ := Prod.mk.inj x2
    have H := Lib.hid h
    have HK := Lib.hid hk
    clear h hk x2 hx he
    go_enter Try.func54, Try.ntmps54
    go_wp2_with (fail)
    exact bodyPost_ret (results_tmp rfl _ _ _) rfl ⟨rfl, by rw [set_same HK.out]; exact H.out⟩

/-- Reading a number without a limit. -/
theorem scue_any {e : Int} {r : Nat} (h : Hp W w L ((sb, scOb r e) :: F)) {k : Nat} {s : ByteArray} {i : Nat} (hk : L[k]? = some (aQrd r s i)) {v : Nat} {e' : Int} {i' : Nat} (hx : nmR s 4294967295 3 (e, i) = (v, e', i')) :
    Calls Try.prog 56 #[.pointer (some ⟨sb, 0, none⟩)] w fun ex w' => ex = .returned (.int .i64 v) ∧ Hp W w' (L.set k (aQrd r s i')) ((sb, scOb r e') :: F) := by
  obtain ⟨c0, c1, f0, f1⟩ := cells_two (h.blk (List.mem_cons_self ..))
  by_cases he : e = 0
  · subst he
    have hlt := nmR_lt hx
    have w2 : IntKind.i64.wrap (v : Int) = (v : Int) := by rw [IntKind.wrap_i64]; omega
    rw [nmR_zero] at hx
    obtain ⟨x1, x2⟩ := Prod.mk.inj hx
    obtain ⟨x2, x3⟩ := Prod.mk.inj x2
    have x2' : ueE s i = e' := by
      rw [← x2]; unfold lkE
      by_cases h0 : ueE s i = 0
      · rw [if_pos h0, if_neg (by omega), h0]
      · rw [if_neg h0]
    have H := Lib.hid h
    have HK := Lib.hid hk
    have X := Lib.hid (And.intro x1 (And.intro x2' x3))
    have hG : ∀ w L F, Hp W w L F → L[k]? = some (aQrd r s i) → Calls Try.prog 70 #[.pointer (some ⟨r, 0, none⟩)] w fun e w' => e = .returned (.tuple #[.int .u64 v, .int .i64 e']) ∧ Hp W w' (L.set k (aQrd r s i')) F := fun w L F h hk => by
      obtain ⟨y1, y2, y3⟩ := X.out
      have := qgue_any h k hk
      rwa [y1, y2, y3] at this
    have HG := Lib.hid hG
    clear h hk x1 x2 x2' x3 hx hlt hG
    go_enter Try.func56, Try.ntmps56
    go_wp2_with (first | (go_at_call 70; (with_reducible refine (HG.out _ _ _ H.out HK.out).mono ?_); rintro e w1 ⟨rfl, hS⟩; obtain ⟨g0, g1, g2, g3⟩ := cells_two (hS.blk (List.mem_cons_self ..)); clear c0 c1 f0 f1))
    exact bodyPost_ret (results_tmp rfl _ _ _) rfl ⟨rfl, hS.sc_set _⟩
  · have d1 : (e == 0) = false := by simp [he]
    rw [nmR_not _ _ _ _ he] at hx
    obtain ⟨rfl, x2⟩ := Prod.mk.inj hx
    obtain ⟨rfl, rfl⟩ := Prod.mk.inj x2
    have H := Lib.hid h
    have HK := Lib.hid hk
    clear h hk x2 hx he
    go_enter Try.func56, Try.ntmps56
    go_wp2_with (fail)
    exact bodyPost_ret (results_tmp rfl _ _ _) rfl ⟨rfl, by rw [set_same HK.out]; exact H.out⟩

theorem sckind_any {e : Int} {r : Nat} (h : Hp W w L ((sb, scOb r e) :: F)) (b : Bool) {i : Nat} {e' : Int} {i' : Nat} (hx : kdR b 9 (e, i) = (e', i')) :
    Calls Try.prog 55 #[.pointer (some ⟨sb, 0, none⟩), .bool b] w fun ex w' => ex = .returned (.tuple #[]) ∧ Hp W w' L ((sb, scOb r e') :: F) := by
  obtain ⟨c0, c1, f0, f1⟩ := cells_two (h.blk (List.mem_cons_self ..))
  unfold kdR at hx
  have H := Lib.hid h
  clear h
  by_cases he : e = 0
  · subst he
    cases b
    · rw [if_pos ⟨rfl, rfl⟩] at hx
      obtain ⟨rfl, rfl⟩ := Prod.mk.inj hx
      clear hx
      go_enter Try.func55, Try.ntmps55
      go_wp2_with (fail)
      exact bodyPost_end (results_none rfl _ _ _) rfl ⟨rfl, H.out.sc_set _⟩
    · rw [if_neg (by simp)] at hx
      obtain ⟨rfl, rfl⟩ := Prod.mk.inj hx
      clear hx
      go_enter Try.func55, Try.ntmps55
      go_wp2_with (fail)
      exact bodyPost_end (results_none rfl _ _ _) rfl ⟨rfl, H.out⟩
  · have d1 : (e == 0) = false := by simp [he]
    rw [if_neg (by simp [he])] at hx
    obtain ⟨rfl, rfl⟩ := Prod.mk.inj hx
    clear hx he
    go_enter Try.func55, Try.ntmps55
    go_wp2_with (fail)
    exact bodyPost_end (results_none rfl _ _ _) rfl ⟨rfl, H.out⟩

theorem scrange_any {e : Int} {r : Nat} (h : Hp W w L ((sb, scOb r e) :: F)) (b : Bool) {i : Nat} {e' : Int} {i' : Nat} (hx : kdR b 3 (e, i) = (e', i')) :
    Calls Try.prog 68 #[.pointer (some ⟨sb, 0, none⟩), .bool b] w fun ex w' => ex = .returned (.tuple #[]) ∧ Hp W w' L ((sb, scOb r e') :: F) := by
  obtain ⟨c0, c1, f0, f1⟩ := cells_two (h.blk (List.mem_cons_self ..))
  unfold kdR at hx
  have H := Lib.hid h
  clear h
  by_cases he : e = 0
  · subst he
    cases b
    · rw [if_pos ⟨rfl, rfl⟩] at hx
      obtain ⟨rfl, rfl⟩ := Prod.mk.inj hx
      clear hx
      go_enter Try.func68, Try.ntmps68
      go_wp2_with (fail)
      exact bodyPost_end (results_none rfl _ _ _) rfl ⟨rfl, H.out.sc_set _⟩
    · rw [if_neg (by simp)] at hx
      obtain ⟨rfl, rfl⟩ := Prod.mk.inj hx
      clear hx
      go_enter Try.func68, Try.ntmps68
      go_wp2_with (fail)
      exact bodyPost_end (results_none rfl _ _ _) rfl ⟨rfl, H.out⟩
  · have d1 : (e == 0) = false := by simp [he]
    rw [if_neg (by simp [he])] at hx
    obtain ⟨rfl, rfl⟩ := Prod.mk.inj hx
    clear hx he
    go_enter Try.func68, Try.ntmps68
    go_wp2_with (fail)
    exact bodyPost_end (results_none rfl _ _ _) rfl ⟨rfl, H.out⟩

theorem nmR_two {s : ByteArray} {m : Nat} {wr : Int} {e : Int} {i : Nat} {v : Nat} {e' : Int} {i' : Nat} (hx : nmR s m wr (e, i) = (v, e', i')) :
    ∃ e1, nmR s 4294967295 3 (e, i) = (v, e1, i') ∧ kdR (decide (v ≤ m)) wr (e1, i') = (e', i') := by
  by_cases he : e = 0
  · subst he
    have hlt := nmR_lt hx
    rw [nmR_zero] at hx
    obtain ⟨x1, x2⟩ := Prod.mk.inj hx
    obtain ⟨x2, x3⟩ := Prod.mk.inj x2
    refine ⟨ueE s i, ?_, ?_⟩
    · rw [nmR_zero, x1, x3]
      have : lkE (ueE s i) v 4294967295 3 = ueE s i := by
        unfold lkE
        by_cases h0 : ueE s i = 0
        · rw [if_pos h0, if_neg (by omega), h0]
        · rw [if_neg h0]
      rw [this]
    · rw [x1] at x2
      rw [← x2]
      unfold kdR lkE
      by_cases h0 : ueE s i = 0
      · by_cases hm : m < v
        · have hd : decide (v ≤ m) = false := by simp; omega
          rw [if_pos ⟨h0, hd⟩, if_pos h0, if_pos hm]
        · have hd : decide (v ≤ m) = true := by simp; omega
          rw [if_neg (by simp; omega), if_pos h0, if_neg hm, h0]
      · rw [if_neg (by simp [h0]), if_neg h0]
  · rw [nmR_not _ _ _ _ he] at hx
    obtain ⟨rfl, x2⟩ := Prod.mk.inj hx
    obtain ⟨rfl, rfl⟩ := Prod.mk.inj x2
    refine ⟨e, nmR_not _ _ _ _ he, ?_⟩
    unfold kdR
    rw [if_neg (by simp [he])]

theorem scranged_any {e : Int} {r : Nat} (h : Hp W w L ((sb, scOb r e) :: F)) {k : Nat} {s : ByteArray} {i : Nat} (hk : L[k]? = some (aQrd r s i)) (m : Nat) (hm : m < 2147483648) {v : Nat} {e' : Int} {i' : Nat} (hx : nmR s m 3 (e, i) = (v, e', i')) :
    Calls Try.prog 53 #[.pointer (some ⟨sb, 0, none⟩), .int .i64 m] w fun ex w' => ex = .returned (.int .i64 v) ∧ Hp W w' (L.set k (aQrd r s i')) ((sb, scOb r e') :: F) := by
  obtain ⟨e1, x1, x2⟩ := nmR_two hx
  have d1 : decide ((v : Int) ≤ (m : Int)) = decide (v ≤ m) := by simp
  have H := Lib.hid h
  have HK := Lib.hid hk
  have X1 := Lib.hid x1
  have X2 := Lib.hid x2
  clear h hk x1 x2 hx
  go_enter Try.func53, Try.ntmps53
  go_wp2_with (first | (go_at_call 56; (with_reducible refine (scue_any H.out HK.out X1.out).mono ?_); rintro e w1 ⟨rfl, hS⟩) | (go_at_call 68; (refine (scrange_any hS _ X2.out).mono ?_); rintro e w2 ⟨rfl, hS2⟩))
  exact bodyPost_ret (results_tmp rfl _ _ _) rfl ⟨rfl, hS2⟩
end
end Go.Proofs.Ytkaoeilijdeioaa
