/- Chapter 02's fit, begins and known. -/
import Derived.Test.YtlmkabpdgemndaaGb
import Derived.Lib.Strings
namespace Go.Proofs.Ytlmkabpdgemndaa
open Go.RowKit
set_option linter.unusedVariables false
set_option maxRecDepth 100000
set_option linter.unusedSimpArgs false

theorem gfit_any (wh : Int) (m : Nat) (k : Int) (v : Nat) (h0 : 0 ≤ wh) (h9 : wh ≤ 255) (hm : m < 18446744073709551616) (h1 : -9223372036854775808 ≤ k) (h2 : k ≤ 9223372036854775807) (hv : v < 18446744073709551616) (w : World) :
    Calls Try.prog 33 #[.agg #[.int .u8 wh, .int .u64 m, .int .i64 k, .int .u64 v]] w fun e w' => e = .returned (.agg #[.int .u8 wh, .int .u64 (gM m), .int .i64 (gK k), .int .u64 (gV wh m k v)]) ∧ Below w.heap.size w w' := by
  have tb : -8 ≤ k.tmod 9 ∧ k.tmod 9 ≤ 8 := by
    have h1 := Int.tmod_lt_of_pos k (show (0 : Int) < 9 by omega)
    have h2 := Int.lt_tmod_of_pos k (show (0 : Int) < 9 by omega)
    omega
  obtain ⟨u, hu⟩ : ∃ u : Nat, k.tmod 9 + 9 = (u : Int) := ⟨(k.tmod 9 + 9).toNat, by omega⟩
  have q1 : wrap64 (k.tmod 9 + 9) = (u : Int) := by rw [hu]; exact IntWalk.wrap64_in _ ⟨by omega, by omega⟩
  have hK8 := gK_le k
  have q2 : (u : Int) % 9 = (gK k : Int) := by unfold gK; rw [hu, Int.toNat_natCast]; omega
  have q3 : (m : Int) % 4294967295 = (gM m : Int) := by unfold gM; omega
  have hM : gM m ≤ 4294967294 := by unfold gM; omega
  have gv : gV wh m k v = if wh % 4 = 2 then v % (gM m + 1) else if wh % 4 = 3 then v % (4294967295 * 2 ^ gK k) else v % 4294967295 := rfl
  generalize gM m = M at *
  generalize gK k = K at *
  have Hm := Lib.hid hu; clear hu tb
  have h4 : wh % 4 = 0 ∨ wh % 4 = 1 ∨ wh % 4 = 2 ∨ wh % 4 = 3 := by omega
  rcases h4 with c | c | c | c
  · have e1 : gV wh m k v = v % 4294967295 := by rw [gv, if_neg (by omega), if_neg (by omega)]
    obtain ⟨V, hV⟩ : ∃ V, V = v % 4294967295 := ⟨_, rfl⟩
    have q4 : (v : Int) % 4294967295 = (V : Int) := by omega
    rw [e1, ← hV]
    clear gv e1 hV
    go_enter Try.func33, Try.ntmps33
    go_wp2
    refine bodyPost_ret (v := .agg #[.int .u8 wh, .int .u64 M, .int .i64 K, .int .u64 V]) ?_ rfl ⟨rfl, ((Below.refl _ _).alloc (Nat.le_refl _) _).alloc (by simp) _⟩
    simp [results, Try.results33, go_sem, q2, q3, q4]
  · have e1 : gV wh m k v = v % 4294967295 := by rw [gv, if_neg (by omega), if_neg (by omega)]
    obtain ⟨V, hV⟩ : ∃ V, V = v % 4294967295 := ⟨_, rfl⟩
    have q4 : (v : Int) % 4294967295 = (V : Int) := by omega
    rw [e1, ← hV]
    clear gv e1 hV
    go_enter Try.func33, Try.ntmps33
    go_wp2
    refine bodyPost_ret (v := .agg #[.int .u8 wh, .int .u64 M, .int .i64 K, .int .u64 V]) ?_ rfl ⟨rfl, ((Below.refl _ _).alloc (Nat.le_refl _) _).alloc (by simp) _⟩
    simp [results, Try.results33, go_sem, q2, q3, q4]
  · have e1 : gV wh m k v = v % (M + 1) := by rw [gv, if_pos c]
    obtain ⟨V, hV⟩ : ∃ V, V = v % (M + 1) := ⟨_, rfl⟩
    have q4 : (v : Int) % ((M : Int) + 1) = (V : Int) := by rw [hV]; push_cast; rfl
    have q5 : (((M : Int) + 1) == 0) = false := by simp; omega
    rw [e1, ← hV]
    clear gv e1 hV
    go_enter Try.func33, Try.ntmps33
    go_wp2
    refine bodyPost_ret (v := .agg #[.int .u8 wh, .int .u64 M, .int .i64 K, .int .u64 V]) ?_ rfl ⟨rfl, ((Below.refl _ _).alloc (Nat.le_refl _) _).alloc (by simp) _⟩
    simp [results, Try.results33, go_sem, q2, q3, q4]
  · have e1 : gV wh m k v = v % (4294967295 * 2 ^ K) := by rw [gv, if_neg (by omega), if_pos c]
    obtain ⟨p1, p2⟩ := two_pow8 hK8
    obtain ⟨D, hD⟩ : ∃ D, D = 4294967295 * 2 ^ K := ⟨_, rfl⟩
    have q7 : (4294967295 : Int) * 2 ^ K = (D : Int) := by rw [hD, Int.natCast_mul, Int.natCast_pow]; rfl
    have q6 : IntKind.u64.wrap (4294967295 * 2 ^ K) = (D : Int) := by
      rw [q7]; exact w_u64 (by omega)
    rw [e1, ← hD]
    obtain ⟨V, hV⟩ : ∃ V, V = v % D := ⟨_, rfl⟩
    have q4 : (v : Int) % (D : Int) = (V : Int) := by rw [hV]; push_cast; rfl
    have q5 : ¬ D = 0 := by omega
    rw [← hV]
    clear gv e1 hD q7 hV
    go_enter Try.func33, Try.ntmps33
    go_wp2
    refine bodyPost_ret (v := .agg #[.int .u8 wh, .int .u64 M, .int .i64 K, .int .u64 V]) ?_ rfl ⟨rfl, ((Below.refl _ _).alloc (Nat.le_refl _) _).alloc (by simp) _⟩
    simp [results, Try.results33, go_sem, q2, q3, q4]

theorem strB_take (s t : List Bool) : (((strB s).extract 0 t.length).toList == (strB t).toList) = decide (t <+: s) := by
  rw [Lib.extract_toList, Lib.toList_data]
  show (((s.map chB).drop 0).take (t.length - 0) == t.map chB) = _
  rw [List.drop_zero, Nat.sub_zero, ← List.map_take]
  have hi : ∀ a b : List Bool, a.map chB = b.map chB → a = b := fun a b h => (List.map_inj_right (by intro x y; cases x <;> cases y <;> simp [chB])).1 h
  rw [Bool.eq_iff_iff, beq_iff_eq, decide_eq_true_iff, List.prefix_iff_eq_take]
  exact ⟨fun h => (hi _ _ h).symm, fun h => by rw [← h]⟩
theorem begins_any {s t : List Bool} (w : World) :
    Calls Try.prog 35 #[.string (strB s), .string (strB t)] w fun e w' => e = .returned (.bool (decide (t <+: s))) ∧ Below w.heap.size w w' := by
  go_enter Try.func35, Try.ntmps35
  go_wp2
  · rename_i hl
    refine bodyPost_ret (results_tmp rfl _ _ _) rfl ⟨?_, Below.refl _ _⟩
    rw [← strB_take]; rfl
  · rename_i hl
    refine bodyPost_ret (results_tmp rfl _ _ _) rfl ⟨?_, Below.refl _ _⟩
    rw [decide_eq_false (fun h => hl h.length_le)]; rfl

theorem gknown_any {W w : World} {L : List AObj} {F : List (Nat × Obj)} (h : Hp W w L F) :
    Calls Try.prog 11 #[] w fun e w' => e = .returned (.bool true) ∧ Hp W w' L F := by
  have p1 : pueE 47 = 0 := by decide
  have p2 : pueB [] 47 = [false, false, false, false, false, true, true, false, false, false, false] := by decide
  have p3 : pstr [false, false, false, false, false, true, true, false, false, false, false] = ⟨#[6, 0]⟩ := by decide
  have p4 : strB [false, false, false, false, false, true, true, false, false, false, false] = ⟨#[48, 48, 48, 48, 48, 49, 49, 48, 48, 48, 48]⟩ := by decide
  have u1 : ueE ⟨#[6, 0]⟩ 0 = 0 := by decide
  have u2 : ueV ⟨#[6, 0]⟩ 0 = 47 := by decide
  have u3 : ueI ⟨#[6, 0]⟩ 0 = 11 := by decide
  have H := Lib.hid h; clear h
  go_enter Try.func11, Try.ntmps11
  go_wp2_with (first | (go_at_call 13; refine (write_any H.out).mono ?_; rintro e w1 ⟨wb, rfl, hS⟩) | (go_at_call 18; refine (gput_ue hS 0 at0 (by simp) 47 (by decide)).mono ?_; rintro e w1 ⟨rfl, hS2⟩; simp only [set0, p1, p2] at hS2 ⊢; clear hS) | (go_at_call 19; refine (bytes_any hS2 0 at0 (by decide)).mono ?_; rintro e w1 ⟨rfl, hS3⟩; clear hS2) | (go_at_call 12; refine (read_any hS3 _ (by decide)).mono ?_; rintro e w1 ⟨rb, rfl, hS4⟩; clear hS3) | (go_at_call 17; refine (gue_any hS4 0 at0).mono ?_; rintro e w1 ⟨rfl, hS5⟩; simp only [set0, u1, u2, u3] at hS5 ⊢; clear hS4) | (go_at_call 31; refine (wbits_any hS5 1 at1 (by decide)).mono ?_; rintro e w1 ⟨rfl, hS6⟩))
  exact bodyPost_ret (results_tmp rfl _ _ _) rfl ⟨rfl, hS6.tail.tail⟩

end Go.Proofs.Ytlmkabpdgemndaa
