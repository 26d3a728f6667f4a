/- The walk of GolombLengths. -/
import Derived.Test.YtlmkabpdgemndaaOrd
namespace Go.Proofs.Ytlmkabpdgemndaa
open Go.RowKit
set_option linter.unusedVariables false
set_option maxRecDepth 100000
set_option linter.unusedSimpArgs false

theorem ueN_double {h : Nat} (h1 : 1 ≤ h) : ueN (2 * h - 1) = ueN (2 * h) := by
  obtain ⟨g1, g2⟩ := ueN_bounds (2 * h)
  apply ueN_of
  · have : 1 ≤ ueN (2 * h) := by
      have := (Nat.pow_lt_pow_iff_right (a := 2) (n := 1) (m := ueN (2 * h) + 1) (by omega)).1 (by omega)
      omega
    obtain ⟨q, hq⟩ : ∃ q, ueN (2 * h) = q + 1 := ⟨ueN (2 * h) - 1, by omega⟩
    rw [hq, Nat.pow_succ] at g1 ⊢
    omega
  · omega
theorem seN_pos {h : Nat} (h1 : 1 ≤ h) : seN (h : Int) = 2 * h - 1 := by unfold seN; rw [if_pos (by omega)]; omega
theorem seN_neg (h : Nat) : seN (-(h : Int)) = 2 * h := by unfold seN; rw [if_neg (by omega)]; omega
theorem half_bits {h : Nat} (h1 : 1 ≤ h) : (ueB (seN (h : Int))).length = (ueB (seN (-(h : Int)))).length ∧ ((strB (ueB (seN (h : Int)))).toList == (strB (ueB (seN (-(h : Int))))).toList) = false := by
  rw [seN_pos h1, seN_neg]
  refine ⟨by rw [ueB_length, ueB_length, ueN_double h1], ?_⟩
  rw [beq_eq_false_iff_ne]
  intro hc
  have e : strB (ueB (2 * h - 1)) = strB (ueB (2 * h)) := by
    have := congrArg List.toArray hc
    rw [Lib.toList_data, Lib.toList_data] at this
    cases h1 : strB (ueB (2 * h - 1)); cases h2 : strB (ueB (2 * h))
    rw [h1, h2] at this
    simpa using this
  have e2 := strB_inj.1 e
  have e3 := congrArg natB e2
  rw [ueB_nat, ueB_nat] at e3
  omega

theorem div_steps {Q N c : Nat} (h1 : 2 ^ N ≤ Q) (h2 : Q < 2 ^ (N + 1)) (hc : c ≤ N + 1) : 0 < Q / 2 ^ c ↔ c ≤ N := by
  constructor
  · intro h
    rcases Nat.lt_or_ge N c with h' | h'
    · obtain rfl : c = N + 1 := by omega
      rw [Nat.div_eq_of_lt h2] at h; omega
    · exact h'
  · intro h
    exact Nat.div_pos (Nat.le_trans (Nat.pow_le_pow_right (by omega) h) h1) (Nat.two_pow_pos c)

theorem code_hp {W w : World} {L : List AObj} {F : List (Nat × Obj)} (h : Hp W w L F) {wh : Int} {m k v : Nat} (ok : CallOk wh m k v) {S : ByteArray} (hS : S = strB (cB wh m k v)) :
    Calls Try.prog 34 #[.agg #[.int .u8 wh, .int .u64 m, .int .i64 k, .int .u64 v]] w fun e w' => e = .returned (.string S) ∧ Hp W w' L F := by
  subst hS; exact code_any h ok

set_option maxHeartbeats 1000000 in
theorem lengths_walk (v : Nat) (k : Int) (hv : v < 18446744073709551616) (h1 : -9223372036854775808 ≤ k) (h2 : k ≤ 9223372036854775807) (W : World) :
    Calls Try.prog 6 #[.int .u64 v, .int .i64 k] W fun e w' => e = .returned (.bool true) ∧ Below W.heap.size W w' := by
  have ok := fit_ok (wh := 3) (by decide) (by decide) 0 k v
  have hS := Hp.start W
  have hK8 := gK_le k
  have hfit := fun (w : World) (L : List AObj) (F : List (Nat × Obj)) (h : Hp W w L F) => gfit_hp h 3 0 k v (by decide) (by decide) (by decide) h1 h2 hv
  have e0 : gM 0 = 0 := rfl
  rw [e0] at hfit ok
  generalize gK k = K at *
  generalize hV : gV 3 0 k v = V at *
  have hv64 := ok.lt
  obtain ⟨Q, hQ⟩ : ∃ Q, Q = V / 2 ^ K := ⟨_, rfl⟩
  have hQ1 : Q ≤ 4294967294 := by rw [hQ]; exact ok.v3 (by decide)
  have hQi : ((V : Int) / 2 ^ K) = (Q : Int) := by rw [hQ]; simp
  have okQ : CallOk 0 0 0 Q := ⟨by decide, by decide, by decide, by decide, fun _ => hQ1, fun h => by simp at h, fun h => by simp at h⟩
  obtain ⟨g1, g2⟩ := ueN_bounds Q
  have hN31 := ueN_le hQ1
  have l1 : (cB 3 0 K V).length = 2 * ueN Q + 1 + K := by
    have e : cB 3 0 K V = ukB K V := rfl
    rw [e]; unfold ukB; rw [List.length_append, ueB_length, bitsN_length, ← hQ]
  have l2 : (cB 0 0 0 Q).length = 2 * ueN Q + 1 := by
    have e : cB 0 0 0 Q = ueB Q := rfl
    rw [e, ueB_length]
  generalize ueN Q = N at *
  obtain ⟨S1, hS1⟩ : ∃ S, S = strB (cB 3 0 K V) := ⟨_, rfl⟩
  obtain ⟨S2, hS2⟩ : ∃ S, S = strB (cB 0 0 0 Q) := ⟨_, rfl⟩
  have z1 : (S1.size : Int) = 2 * ((N : Int) + 1) - 1 + (K : Int) := by rw [hS1, strB_size, l1]; omega
  have z2 : (S2.size : Int) = 2 * ((N : Int) + 1) - 1 := by rw [hS2, strB_size, l2]; omega
  have hfit2 : ∀ (w : World) (L : List AObj) (F : List (Nat × Obj)), Hp W w L F → Calls Try.prog 33 #[.agg #[.int .u8 0, .int .u64 0, .int .i64 0, .int .u64 Q]] w fun e w' => e = .returned (.agg #[.int .u8 0, .int .u64 0, .int .i64 0, .int .u64 Q]) ∧ Hp W w' L F := by
    intro w L F h
    have := gfit_hp h 0 0 0 Q (by decide) (by decide) (by decide) (by decide) (by decide) (by omega)
    have e1 : gV 0 0 0 Q = Q := by unfold gV; rw [if_neg (by decide), if_neg (by decide)]; omega
    have e2 : gK 0 = 0 := rfl
    rw [e1, e2] at this
    exact this
  obtain ⟨Hf, hHf⟩ : ∃ Hf, Hf = v % 2147483648 := ⟨_, rfl⟩
  have hHi : ((v : Int) % 2147483648) = (Hf : Int) := by rw [hHf]; simp
  have hHb : Hf < 2147483648 := by omega
  have hHw : IntKind.i64.wrap (Hf : Int) = (Hf : Int) := IntWalk.i64_in _ (by omega)
  have pe1 : pseE (Hf : Int) = 0 := if_neg (by omega)
  have pe2 : pseE (-(Hf : Int)) = 0 := if_neg (by omega)
  have sl1 : seN (Hf : Int) ≤ 4294967294 := by unfold seN; split <;> omega
  have sl2 : seN (-(Hf : Int)) ≤ 4294967294 := by unfold seN; split <;> omega
  obtain ⟨P1, hP1⟩ : ∃ P, P = ueB (seN (Hf : Int)) := ⟨_, rfl⟩
  obtain ⟨P2, hP2⟩ : ∃ P, P = ueB (seN (-(Hf : Int))) := ⟨_, rfl⟩
  have pb1 : pseB [] (Hf : Int) = P1 := by unfold pseB; rw [if_pos pe1, hP1]; rfl
  have pb2 : pseB [] (-(Hf : Int)) = P2 := by unfold pseB; rw [if_pos pe2, hP2]; rfl
  have ln1 : P1.length ≤ 2 ^ 41 := by rw [hP1, ueB_length]; have := ueN_le sl1; omega
  have hl12 : P2.length = P1.length ∧ ((strB P1).toList == (strB P2).toList) = ((Hf : Int) == 0) := by
    by_cases c : Hf = 0
    · subst c
      have e : P2 = P1 := by rw [hP1, hP2]; rfl
      rw [e]; simp
    · obtain ⟨q1, q2⟩ := half_bits (h := Hf) (by omega)
      rw [hP1, hP2, q1]
      refine ⟨rfl, ?_⟩
      rw [q2]; symm; simp; omega
  have ln2 : P2.length ≤ 2 ^ 41 := by omega
  have l12 := hl12.1
  have s12 := hl12.2
  have hbb : ((Hf : Int) == 0) = decide (Hf = 0) := by rw [Bool.eq_iff_iff]; simp
  have PB := Lib.hid (And.intro (And.intro pe1 pe2) (And.intro pb1 pb2)); clear pe1 pe2 pb1 pb2 hP1 hP2 sl1 sl2 hl12
  have HC1 := Lib.hid hS1; have HC2 := Lib.hid hS2
  have HG := Lib.hid (And.intro g1 g2); clear g1 g2 l1 l2 hQ hS1 hS2 hHf hV
  go_enter Try.func6, Try.ntmps6
  go_wp2_with (first | (go_at_call 33; refine (hfit _ _ _ hS).mono ?_; rintro e w1 ⟨rfl, hS1⟩))
  have HA := hS1.alloc (.cells #[.int .u8 3, .int .u64 0, .int .i64 K, .int .u64 V] 42 (0, 0))
  generalize w1.heap.size = bb at *
  generalize (w1.alloc (.cells #[.int .u8 3, .int .u64 0, .int .i64 K, .int .u64 V] 42 (0, 0))) = w2 at *
  generalize hF : [(bb, Obj.cells #[.int .u8 3, .int .u64 0, .int .i64 K, .int .u64 V] 42 (0, 0))] = F at HA
  clear hS1
  haveI : Nonempty (HpW W [] F) := ⟨⟨_, HA⟩⟩
  have cx : ∀ x : HpW W [] F, (x.w.cell? ⟨bb, 0, none⟩ = some (.int .u8 3) ∧ x.w.cell? ⟨bb, 1, none⟩ = some (.int .u64 0) ∧ x.w.cell? ⟨bb, 2, none⟩ = some (.int .i64 K) ∧ x.w.cell? ⟨bb, 3, none⟩ = some (.int .u64 V)) :=
    fun x => cells4 (t := 42) (x.h.blk (p := (bb, _)) (by rw [← hF]; simp))
  have x0 := fun x => (cx x).1; have x1 := fun x => (cx x).2.1; have x2 := fun x => (cx x).2.2.1; have x3 := fun x => (cx x).2.2.2
  clear cx
  have HF := Lib.hid hF; clear hF
  go_loop [6, 7] (fun n' q' => ∃ c q : Nat, c ≤ N + 1 ∧ n' = .int .i64 c ∧ q = (Q + 1) / 2 ^ c ∧ q' = .int .u64 q) (fun n' _ => N + 1 - (intOf n').toNat)
  case atStart => exact ⟨0, Q + 1, by omega, rfl, by simp, by go_num⟩
  case round =>
    obtain ⟨c, q, hc, rfl, hq, rfl⟩ := hrel
    have hst := div_steps HG.out.1 HG.out.2 hc
    rw [← hq] at hst
    by_cases hlt : c ≤ N
    · have hd : decide (0 < q) = true := by simpa using hst.2 hlt
      have hqb : q ≤ Q + 1 := by rw [hq]; exact Nat.div_le_self _ _
      obtain ⟨r, hr⟩ : ∃ r, r = q / 2 := ⟨_, rfl⟩
      have qw : IntKind.u64.wrap ((q : Int) / 2) = (r : Int) := by rw [show (q : Int) / 2 = ((r : Nat) : Int) by omega]; exact w_u64 (by omega)
      have hq2 : q / 2 = (Q + 1) / 2 ^ (c + 1) := by rw [hq, Nat.div_div_eq_div_mul, Nat.pow_succ]
      rw [← hr] at hq2
      have HQ := Lib.hid hq2; clear hq hq2 hst hr
      go_wp2
      go_round
      case rel => exact ⟨c + 1, r, by omega, by go_num, HQ.out, rfl⟩
      case measure => simp [intOf]; omega
    · have hd : decide (0 < q) = false := by
        have : ¬ 0 < q := fun h => hlt (hst.1 h)
        simpa using this
      obtain rfl : c = N + 1 := by omega
      clear hq hst
      go_wp2_with (fail)
      have a1 : IntKind.i64.wrap (2 * ((N : Int) + 1)) = 2 * ((N : Int) + 1) := IntWalk.i64_in _ (by omega)
      have a2 : IntKind.i64.wrap (2 * ((N : Int) + 1) - 1) = 2 * ((N : Int) + 1) - 1 := IntWalk.i64_in _ (by omega)
      have a3 : IntKind.i64.wrap (2 * ((N : Int) + 1) - 1 + (K : Int)) = 2 * ((N : Int) + 1) - 1 + (K : Int) := IntWalk.i64_in _ (by omega)
      refine wp_region_hp HA (by kernel_rfl) (by kernel_rfl) ?_
      repeat (go_big_quiet_step ((first | (go_at_call 34; with_reducible exact HpW.call (code_hp (HpW.h _) ok HC1.out)) | (go_at_call 34; with_reducible exact HpW.call (code_hp (HpW.h _) okQ HC2.out)) | (go_at_call 33; exact HpW.call (hfit2 _ _ _ (HpW.h _))))))
      refine wpQuiet_nil ?_
      rintro _ ⟨⟨wq, hq⟩, rfl⟩
      clear a1 a2 a3 z1 z2
      have HX := Lib.hid (And.intro x0 (And.intro x1 (And.intro x2 x3))); clear x0 x1 x2 x3
      go_wp2_with (first | (go_at_call 13; (with_reducible refine (write_any hq).mono ?_); rintro e w1 ⟨wb1, rfl, hq1⟩; clear hq) | (go_at_call 13; (with_reducible refine (write_any hq1).mono ?_); rintro e w1 ⟨wb2, rfl, hq2⟩; clear hq1) | (go_at_call 24; (with_reducible refine (gput_se hq2 1 at1 (by simp) (Hf : Int) (by omega) (by omega)).mono ?_); rintro e w1 ⟨rfl, hq3⟩; simp only [set1, PB.out.1.1, PB.out.2.1] at hq3 ⊢; clear hq2) | (go_at_call 24; (with_reducible refine (gput_se hq3 0 at0 (by simp) (-(Hf : Int)) (by omega) (by omega)).mono ?_); rintro e w1 ⟨rfl, hq4⟩; simp only [set0, PB.out.1.2, PB.out.2.2] at hq4 ⊢; clear hq3) | (go_at_call 20; (with_reducible refine (len_hp hq4 1 at1 ln1).mono ?_); rintro e w1 ⟨rfl, hq5⟩; clear hq4) | (go_at_call 20; (with_reducible refine (len_hp hq5 0 at0 ln2).mono ?_); rintro e w1 ⟨rfl, hq6⟩; clear hq5) | (go_at_call 31; (with_reducible refine (wbits_any hq6 1 at1 ln1).mono ?_); rintro e w1 ⟨rfl, hq7⟩; clear hq6) | (go_at_call 31; (with_reducible refine (wbits_any hq7 0 at0 ln2).mono ?_); rintro e w1 ⟨rfl, hq8⟩; clear hq7) | (go_at_call 11; (with_reducible refine (gknown_any hq8).mono ?_); rintro e w1 ⟨rfl, hq9⟩))
      exact bodyPost_ret (results_tmp rfl _ _ _) rfl ⟨rfl, hq9.below⟩

end Go.Proofs.Ytlmkabpdgemndaa
