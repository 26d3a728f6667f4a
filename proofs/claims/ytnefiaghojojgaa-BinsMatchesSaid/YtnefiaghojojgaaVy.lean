/- The walk of BinsMatches. -/
import Derived.Test.YtnefiaghojojgaaVx
import Derived.Test.YtnefiaghojojgaaVl
import Derived.Test.YtnefiaghojojgaaFl
namespace Go.Proofs.Ytnefiaghojojgaa
open Go.RowKit Go.Shelf
set_option linter.unusedVariables false
set_option maxRecDepth 100000
set_option linter.unusedSimpArgs false

theorem unB_len (v f s r : Int) : (unB v f s r).length ≤ 1025 := by
  unfold unB
  split
  · rename_i h
    have h2 : 0 ≤ v ∧ v ≤ 1024 ∧ [f, s, r].all okc = true := by unfold unE at h; split at h <;> first | assumption | omega
    rw [cntB_length]
    simp
    omega
  · simp
theorem cutB_len (v m f r : Int) : (cutB v m f r).length ≤ 1025 := by
  unfold cutB
  split
  · rename_i h
    have h2 : 0 ≤ m ∧ m ≤ 1024 ∧ [f, r].all okc = true ∧ 0 ≤ v ∧ v ≤ m := by unfold cutE at h; split at h <;> first | assumption | omega
    rw [cntB_length]
    split <;> omega
  · simp
theorem escB_len2 (v : Nat) (k : Int) : (escB v k).length ≤ 1025 := by
  unfold escB
  split
  · rename_i h
    have h2 : ¬ (k < 0 ∨ 8 < k ∨ 4294967294 < v / 2 ^ k.toNat) := by unfold escE at h; split at h <;> first | assumption | omega
    have := lgN_le (v := v / 2 ^ k.toNat) (by omega)
    rw [List.length_append, digB_length, digB_length]
    omega
  · simp
theorem sgB_len2 (v : Int) : (sgB v).length ≤ 1 := by
  unfold sgB
  split
  · simp
  · split <;> simp
theorem mvB_len (v sum : Int) (vert : Bool) : (mvB v sum vert).length ≤ 1025 := by
  unfold mvB
  split
  · rename_i h
    have h2 : 0 ≤ sum ∧ -8192 ≤ v ∧ v ≤ 8192 := by unfold mvE at h; split at h <;> first | assumption | omega
    have h3 := mvN_len (N := v.natAbs) (by omega) sum vert
    have h4 := sgB_len2 v
    rw [List.length_append]
    omega
  · simp
theorem tyB_len (n : Int) (intra : Bool) (inc : Int) : (tyB n intra inc).length ≤ 1025 := by
  unfold tyB
  repeat' split
  all_goals simp
theorem askB_len (a : Ask) : (askB a).length ≤ 1025 := by
  unfold askB
  split
  · exact unB_len _ _ _ _
  split
  · exact cutB_len _ _ _ _
  split
  · exact escB_len2 _ _
  split
  · exact mvB_len _ _ _
  split
  · exact tyB_len _ _ _
  · unfold qpB
    split
    · exact unB_len _ _ _ _
    · simp
section
variable {W w : World} {L : List AObj} {F : List (Nat × Obj)}
theorem enc_is (h : Hp W w L F) (a : Ask) (ok : AskOk a) {E : Int} {C : List (Int × Int)} {m : Nat} (hE : askE a = E) (hC : askB a = C) (hm : C.length = m) :
    Calls Try.prog 14 #[askV a] w fun e w' => ∃ s1 c1 s2 c2, e = .returned (.tuple #[.slice s1 m c1, .slice s2 m c2, .int .i64 E, .int .i64 E]) ∧ Hp W w' (aSl 27 2 (.slice s2 m c2) C.length (bcs C) :: aSl 27 2 (.slice s1 m c1) C.length (bcs C) :: L) F := by
  subst hE hC
  refine (enc_any h a ok).mono ?_
  rintro e w' ⟨x, y, rfl, h'⟩
  obtain ⟨s2, c2, rfl, _, _⟩ := h'.sl_form 0 at0
  obtain ⟨s1, c1, rfl, _, _⟩ := h'.sl_form 1 at1
  rw [← hm]
  exact ⟨s1, c1, s2, c2, rfl, h'⟩
def askOf (C : Nat → List Value) (i : Nat) : Ask := ⟨zat C i 0, zat C i 1, zat C i 2, zat C i 3, zat C i 4, zat C i 5, bat C i 6⟩
set_option maxHeartbeats 8000000 in
theorem matches_walk {sp : Option Addr} {n cap b o : Nat} {C : Nat → List Value} (hin : RowsIn Try.prog W [.int .u8, .int .i64, .int .i64, .int .i64, .int .i64, .int .i64, .bool] sp n b o C) (hn63 : n ≤ 9223372036854775807) :
    Calls Try.prog 5 #[.slice sp n cap] W fun e w' => e = .returned (.bool true) ∧ Below W.heap.size W w' := by
  have hS := Hp.start W
  have HIN := Lib.hid hin
  clear hin
  go_enter Try.func5, Try.ntmps5
  go_wp2_with (fail)
  go_loopw [3] (fun i wr => ∃ k : Nat, k ≤ 100 ∧ i = .int .i64 k ∧ Hp W wr [] []) (fun i _ => 100 - (intOf i).toNat)
  case atStart => exact ⟨0, by omega, rfl, hS⟩
  case round =>
    obtain ⟨k, hk, rfl, h⟩ := hrel
    by_cases hkn : k < n
    · by_cases hk1 : k < 100
      · obtain ⟨rfl, hblt⟩ := HIN.out.at_ (by omega)
        obtain ⟨a0, q0⟩ := HIN.out.int hkn 0 (k := .u8) rfl
        obtain ⟨a1, q1⟩ := HIN.out.int hkn 1 (k := .i64) rfl
        have a2 := (HIN.out.int hkn 2 (k := .i64) rfl).1
        have a3 := (HIN.out.int hkn 3 (k := .i64) rfl).1
        have a4 := (HIN.out.int hkn 4 (k := .i64) rfl).1
        have a5 := (HIN.out.int hkn 5 (k := .i64) rfl).1
        have a6 := HIN.out.bool hkn 6 rfl
        have k0 := HIN.out.old hkn a0 h.below
        have k1 := HIN.out.old hkn a1 h.below
        have k2 := HIN.out.old hkn a2 h.below
        have k3 := HIN.out.old hkn a3 h.below
        have k4 := HIN.out.old hkn a4 h.below
        have k5 := HIN.out.old hkn a5 h.below
        have k6 := HIN.out.old hkn a6 h.below
        simp only [List.length_cons, List.length_nil, Nat.zero_add, Nat.reduceAdd, Nat.add_zero] at k0 k1 k2 k3 k4 k5 k6
        have b0 := bounds_u8 q0
        have b1 := bounds_i64 q1
        have hok : AskOk (askOf C k) := ⟨b0.1, by show zat C k 0 ≤ 255; omega, b1.1, by show zat C k 1 < 9223372036854775808; omega⟩
        have hlen := askB_len (askOf C k)
        unfold askOf at hok hlen
        clear a0 a1 a2 a3 a4 a5 a6 q0 q1 b0 b1
        generalize zat C k 0 = x0 at *
        generalize zat C k 1 = x1 at *
        generalize zat C k 2 = x2 at *
        generalize zat C k 3 = x3 at *
        generalize zat C k 4 = x4 at *
        generalize zat C k 5 = x5 at *
        generalize bat C k 6 = x6 at *
        obtain ⟨E, hE⟩ : ∃ E, askE ⟨x0, x1, x2, x3, x4, x5, x6⟩ = E := ⟨_, rfl⟩
        obtain ⟨B, hB⟩ : ∃ B, askB ⟨x0, x1, x2, x3, x4, x5, x6⟩ = B := ⟨_, rfl⟩
        rw [hB] at hlen
        obtain ⟨m, hm⟩ : ∃ m, B.length = m := ⟨_, rfl⟩
        have HO := Lib.hid (And.intro hok (And.intro hE (And.intro hB (And.intro hm hlen))))
        have z0 : (E != E) = false := by simp
        clear hok hE hB hm hlen
        go_wp2_with (first | (go_at_call 14; (with_reducible refine (enc_is h _ HO.out.1 HO.out.2.1 HO.out.2.2.1 HO.out.2.2.2.1).mono ?_); rintro e w1 ⟨s1, c1, s2, c2, rfl, h1⟩; clear h; obtain ⟨g2, p2⟩ := h1.bnIn 0 at0 (by have := HO.out.2.2.2.2; omega); obtain ⟨g1, p1⟩ := h1.bnIn 1 at1 (by have := HO.out.2.2.2.2; omega); have PP := Lib.hid (And.intro p1 p2); clear p1 p2) | (go_at_call 8; (with_reducible refine (equal_is h1 PP.out.1 PP.out.2 (decide_eq_true rfl)).mono ?_); rintro e w2 ⟨rfl, h2, -⟩))
        go_roundw
        case rel => exact ⟨k + 1, by omega, by go_num, h2.tail.tail⟩
        case measure => simp [intOf]; omega
      · go_wp2_with (first | (go_at_call 9; (with_reducible refine (alive_any h).mono ?_); rintro e w5 ⟨rfl, h6⟩))
        exact bodyPost_ret (results_tmp rfl _ _ _) rfl ⟨rfl, h6.below⟩
    · go_wp2_with (first | (go_at_call 9; (with_reducible refine (alive_any h).mono ?_); rintro e w5 ⟨rfl, h6⟩))
      exact bodyPost_ret (results_tmp rfl _ _ _) rfl ⟨rfl, h6.below⟩
end

end Go.Proofs.Ytnefiaghojojgaa
