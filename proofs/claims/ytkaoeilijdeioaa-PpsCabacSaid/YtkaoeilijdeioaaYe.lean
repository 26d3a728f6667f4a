/- The reference's Scan: signed numbers. -/
import Derived.Test.YtkaoeilijdeioaaPe
import Derived.Test.YtkaoeilijdeioaaYp
import Derived.Test.YtkaoeilijdeioaaGr
import Derived.Test.YtkaoeilijdeioaaSc
namespace Go.Proofs.Ytkaoeilijdeioaa
open Go.RowKit
set_option linter.unusedVariables false
set_option maxRecDepth 100000
set_option linter.unusedSimpArgs false

/-- A signed number, any one. -/
def siR (s : ByteArray) (q : Int × Nat) : Int × Int × Nat := if q.1 = 0 then (seV s q.2, ueE s q.2, ueI s q.2) else (0, q.1, q.2)
theorem siR_zero (s : ByteArray) (i : Nat) : siR s (0, i) = (seV s i, ueE s i, ueI s i) := rfl
theorem siR_not (s : ByteArray) {e : Int} (i : Nat) (h : e ≠ 0) : siR s (e, i) = (0, e, i) := by unfold siR; rw [if_neg h]
theorem sgR_two {s : ByteArray} {lo hi : Int} {e : Int} {i : Nat} {v : Int} {e' : Int} {i' : Nat} (hx : sgR s lo hi (e, i) = (v, e', i')) :
    ∃ e1, siR s (e, i) = (v, e1, i') ∧ kdR (decide (lo ≤ v ∧ v ≤ hi)) 3 (e1, i') = (e', i') := by
  by_cases he : e = 0
  · subst he
    rw [sgR_zero] at hx
    obtain ⟨x1, x2⟩ := Prod.mk.inj hx
    obtain ⟨x2, x3⟩ := Prod.mk.inj x2
    refine ⟨ueE s i, by rw [siR_zero, x1, x3], ?_⟩
    rw [← x2, x1]
    unfold kdR sgE
    by_cases h0 : ueE s i = 0
    · rw [h0]
      by_cases hb : lo ≤ v ∧ v ≤ hi
      · rw [if_neg (by simp [hb]), if_pos rfl, if_pos hb]
      · rw [if_pos ⟨rfl, decide_eq_false hb⟩, if_pos rfl, if_neg hb]
    · rw [if_neg (fun hh => h0 hh.1), if_neg h0]
  · rw [sgR_not _ _ _ _ he] at hx
    obtain ⟨rfl, x2⟩ := Prod.mk.inj hx
    obtain ⟨rfl, rfl⟩ := Prod.mk.inj x2
    refine ⟨_, siR_not _ _ he, ?_⟩
    unfold kdR
    rw [if_neg (fun hh => he hh.1)]
section
variable {W w : World} {L : List AObj} {F : List (Nat × Obj)} {sb : Nat}
theorem scse_any {e : Int} {r : Nat} (h : Hp W w L ((sb, scOb r e) :: F)) {k : Nat} {s : ByteArray} {i : Nat} (hk : L[k]? = some (aQrd r s i)) {v : Int} {e' : Int} {i' : Nat} (hx : siR s (e, i) = (v, e', i')) :
    Calls Try.prog 71 #[.pointer (some ⟨sb, 0, none⟩)] w fun ex w' => ex = .returned (.int .i64 v) ∧ Hp W w' (L.set k (aQrd r s i')) ((sb, scOb r e') :: F) := by
  obtain ⟨c0, c1, f0, f1⟩ := cells_two (h.blk (List.mem_cons_self ..))
  by_cases he : e = 0
  · subst he
    rw [siR_zero] at hx
    obtain ⟨x1, x2⟩ := Prod.mk.inj hx
    obtain ⟨x2, x3⟩ := Prod.mk.inj x2
    have w2 : IntKind.i64.wrap v = v := by
      have := ueV_lt s i
      rw [← x1]; unfold seV; rw [IntKind.wrap_i64]; split <;> omega
    have H := Lib.hid h
    have HK := Lib.hid hk
    have X := Lib.hid (And.intro x1 (And.intro x2 x3))
    have hG : ∀ w L F, Hp W w L F → L[k]? = some (aQrd r s i) → Calls Try.prog 79 #[.pointer (some ⟨r, 0, none⟩)] w fun e w' => e = .returned (.tuple #[.int .i64 v, .int .i64 e']) ∧ Hp W w' (L.set k (aQrd r s i')) F := fun w L F h hk => by
      obtain ⟨y1, y2, y3⟩ := X.out
      have := qgse_any h k hk
      rwa [y1, y2, y3] at this
    have HG := Lib.hid hG
    clear h hk x1 x2 x3 hx hG
    go_enter Try.func71, Try.ntmps71
    go_wp2_with (first | (go_at_call 79; (with_reducible refine (HG.out _ _ _ H.out HK.out).mono ?_); rintro e w1 ⟨rfl, hS⟩; obtain ⟨g0, g1, g2, g3⟩ := cells_two (hS.blk (List.mem_cons_self ..)); clear c0 c1 f0 f1))
    exact bodyPost_ret (results_tmp rfl _ _ _) rfl ⟨rfl, hS.sc_set _⟩
  · have d1 : (e == 0) = false := by simp [he]
    rw [siR_not _ _ he] at hx
    obtain ⟨rfl, x2⟩ := Prod.mk.inj hx
    obtain ⟨rfl, rfl⟩ := Prod.mk.inj x2
    have H := Lib.hid h
    have HK := Lib.hid hk
    clear h hk x2 hx he
    go_enter Try.func71, Try.ntmps71
    go_wp2_with (fail)
    exact bodyPost_ret (results_tmp rfl _ _ _) rfl ⟨rfl, by rw [set_same HK.out]; exact H.out⟩
theorem scsigned_any {e : Int} {r : Nat} (h : Hp W w L ((sb, scOb r e) :: F)) {k : Nat} {s : ByteArray} {i : Nat} (hk : L[k]? = some (aQrd r s i)) (lo hi : Int) {v : Int} {e' : Int} {i' : Nat} (hx : sgR s lo hi (e, i) = (v, e', i')) :
    Calls Try.prog 57 #[.pointer (some ⟨sb, 0, none⟩), .int .i64 lo, .int .i64 hi] w fun ex w' => ex = .returned (.int .i64 v) ∧ Hp W w' (L.set k (aQrd r s i')) ((sb, scOb r e') :: F) := by
  obtain ⟨e1, x1, x2⟩ := sgR_two hx
  obtain ⟨b, hb⟩ : ∃ b, decide (lo ≤ v ∧ v ≤ hi) = b := ⟨_, rfl⟩
  rw [hb] at x2
  have H := Lib.hid h
  have HK := Lib.hid hk
  have X1 := Lib.hid x1
  have X2 := Lib.hid x2
  have HB := Lib.hid hb
  clear h hk x1 x2 hx hb
  go_enter Try.func57, Try.ntmps57
  go_wp2_with (first | (go_at_call 71; (with_reducible refine (scse_any H.out HK.out X1.out).mono ?_); rintro e w1 ⟨rfl, hS⟩) | (go_at_call 72; (with_reducible refine (rsin_as HB.out _).mono ?_); rintro e wx ⟨rfl, rfl⟩) | (go_at_call 68; (with_reducible refine (scrange_any hS b X2.out).mono ?_); rintro e w2 ⟨rfl, hS2⟩))
  exact bodyPost_ret (results_tmp rfl _ _ _) rfl ⟨rfl, hS2⟩
end
end Go.Proofs.Ytkaoeilijdeioaa
