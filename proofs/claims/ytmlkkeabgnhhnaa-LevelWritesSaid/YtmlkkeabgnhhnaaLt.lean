/- The reference's Symbol (spindleref18). -/
import Derived.Test.YtmlkkeabgnhhnaaLa
namespace Go.Proofs.Ytmlkkeabgnhhnaa
open Go.RowKit
set_option linter.unusedVariables false
set_option maxRecDepth 100000
set_option linter.unusedSimpArgs false

theorem pcs_at : ∀ {l : List (Nat × Nat)} {i : Nat} {p : Nat × Nat}, l[i]? = some p → (pcs l)[i * 2]? = some (.int .i64 p.1) ∧ (pcs l)[i * 2 + 1]? = some (.int .i64 p.2)
  | a :: l, 0, p, h => by
    simp at h
    subst h
    exact ⟨rfl, rfl⟩
  | a :: l, i + 1, p, h => by
    have e : pcs (a :: l) = .int .i64 a.1 :: .int .i64 a.2 :: pcs l := by simp [pcs]
    have := pcs_at (l := l) (i := i) (p := p) (by simpa using h)
    rw [e, show (i + 1) * 2 = i * 2 + 1 + 1 by omega]
    simpa using this
theorem pair_eq (a b c d : Int) (w : World) : (Op.equalIn 10000 59 (.agg #[.int .i64 a, .int .i64 b]) (.agg #[.int .i64 c, .int .i64 d])).run Try.prog w = .ok ((a == c) && (b == d)) w := by
  rw [show (10000 : Nat) = 9999 + 1 from rfl]
  unfold Op.equalIn
  simp only [Sem.run_bind, run_underlying Try.underlying59, Result.andThen_ok]
  obtain ⟨ti, ti1, ti2, ti3, ti4⟩ := i64_info
  have hs : ∀ w, (sizeOf 3).run Try.prog w = .ok 1 w := fun w => by simp [sizeOf, typeInfo, ti1, ti3]
  have he : ∀ (x y : Int) w, (Op.equalIn 9999 3 (.int .i64 x) (.int .i64 y)).run Try.prog w = .ok (x == y) w := fun x y w => run_equalIn_int w 9998 3 .i64 .i64 x y Try.underlying3
  simp [hs, he, Std.Legacy.Range.forIn_eq_forIn_range', part, typeInfo, ti1, ti3]
  have ha : ∀ w, (isAgg 3).run Try.prog w = .ok false w := fun w => by simp [isAgg, run_underlying Try.underlying3]
  rw [show List.range' 0 2 = [0, 1] from rfl]
  simp only [List.forIn_cons, List.forIn_nil, Sem.run_bind, ha, Result.andThen_ok, Bool.false_eq_true, if_false]
  cases h1 : (a == c) <;> cases h2 : (b == d) <;> simp [he, ha, h1, h2]

theorem plT_all : ∀ p ∈ plT 17, p.1 ≤ 16 ∧ p.2 ≤ 3 ∧ p.2 ≤ p.1 := by decide +kernel
theorem plT_has' : ∀ t : Fin 17, ∀ o : Fin 4, (o : Nat) ≤ t → ((t : Nat), (o : Nat)) ∈ plT 17 := by decide +kernel
theorem plT_has (t : Nat) (ht : t < 17) (o : Nat) (ho : o < 4) (h : o ≤ t) : (t, o) ∈ plT 17 := plT_has' ⟨t, ht⟩ ⟨o, ho⟩ h
theorem plT_len : (plT 17).length = 62 := by decide +kernel
/-- A pair that is one. -/
def okP (t o : Int) : Prop := 0 ≤ t ∧ t ≤ 16 ∧ 0 ≤ o ∧ o ≤ 3 ∧ o ≤ t
instance (t o : Int) : Decidable (okP t o) := by unfold okP; infer_instance

set_option maxHeartbeats 4000000 in
theorem symbol_any {W w : World} {L : List AObj} {F : List (Nat × Obj)} (h : Hp W w L F) (t o : Int) :
    Calls Try.prog 39 #[.int .i64 t, .int .i64 o] w fun e w' => ∃ x : Int, e = .returned (.tuple #[.int .i64 x, .int .i64 (if okP t o then 0 else 3)]) ∧ Hp W w' L F := by
  have H := Lib.hid h
  clear h
  go_enter Try.func39, Try.ntmps39
  go_wp2_with (first | (go_at_call 54; (with_reducible refine (pairs_any H.out).mono ?_); rintro e w1 ⟨v, rfl, h1⟩))
  obtain ⟨sp, cp, rfl, _, _⟩ := h1.sl_form 0 at0
  have h62 : (plT 17).length = 62 := plT_len
  have H1 := Lib.hid h1
  clear h1
  obtain ⟨A, hA⟩ : ∃ A, plT 17 = A := ⟨_, rfl⟩
  rw [hA] at h62
  simp only [hA, h62]
  have HA := Lib.hid hA
  have HL := Lib.hid h62
  clear hA h62
  go_loopw [7] (fun i' wr => ∃ i : Nat, i' = .int .i64 i ∧ i ≤ 62 ∧ Hid (∀ j p, j < i → A[j]? = some p → ¬ ((p.1 : Int) = t ∧ (p.2 : Int) = o)) ∧ Hp W wr (aSl 59 2 (.slice sp 62 cp) 62 (pcs A) :: L) F) (fun i' _ => 62 - (intOf i').toNat)
  case atStart => exact ⟨0, rfl, by omega, Lib.hid (fun j p h => absurd h (by omega)), by have := H1.out; rw [HA.out, HL.out] at this; exact this⟩
  case round =>
    obtain ⟨i, rfl, hi, HN, g⟩ := hrel
    by_cases hlt : i < 62
    · obtain ⟨p, hp⟩ : ∃ p, A[i]? = some p := ⟨A[i]'(by rw [HL.out]; exact hlt), List.getElem?_eq_getElem _⟩
      obtain ⟨q1, q2⟩ := pcs_at hp
      obtain ⟨ga, rfl, k1⟩ := g.sl_cell 0 at0 q1
      have k2 := g.sl_at 0 at0 q2
      have hlt' : (i : Int) < 62 := by omega
      have HP := Lib.hid hp
      have G := Lib.hid g
      clear hp q1 q2 g
      have heq := pair_eq p.1 p.2 t o
      by_cases hE : (p.1 : Int) = t ∧ (p.2 : Int) = o
      · obtain ⟨rfl, rfl⟩ := hE
        simp only [beq_self_eq_true, Bool.and_self] at heq
        have hok : okP (p.1 : Int) (p.2 : Int) := by
          have := plT_all p (by rw [HA.out]; exact List.mem_of_getElem? HP.out)
          unfold okP; omega
        have HOK := Lib.hid hok
        clear hok
        go_wp2_with (fail)
        refine bodyPost_ret (results_tmp2 rfl _ _ _) rfl ?_
        first | exact ⟨⟨_, rfl⟩, G.out.tail⟩ | (refine ⟨_, ?_, G.out.tail⟩; rw [if_pos HOK.out]; rfl)
      · have HE := Lib.hid hE
        have hE2 : (((p.1 : Int) == t) && ((p.2 : Int) == o)) = false := by
          rw [Bool.eq_false_iff]
          intro h
          simp at h
          exact hE h
        rw [hE2] at heq
        clear hE hE2
        go_wp2_with (fail)
        go_roundw
        case rel => exact ⟨i + 1, by go_num, by omega, Lib.hid (fun j q hj hq => by
          by_cases c : j < i
          · exact HN.out j q c hq
          · obtain rfl : j = i := by omega
            rw [HP.out] at hq
            obtain rfl := Option.some.inj hq
            exact HE.out), G.out⟩
        case measure => simp [intOf]; omega
    · obtain rfl : i = 62 := by omega
      have hno : ¬ okP t o := by
        intro h
        unfold okP at h
        obtain ⟨t', rfl⟩ : ∃ q : Nat, t = (q : Int) := ⟨t.toNat, by omega⟩
        obtain ⟨o', rfl⟩ : ∃ q : Nat, o = (q : Int) := ⟨o.toNat, by omega⟩
        have hm := plT_has t' (by omega) o' (by omega) (by omega)
        rw [HA.out] at hm
        obtain ⟨j, hj⟩ := List.mem_iff_getElem?.1 hm
        have hl := (List.getElem?_eq_some_iff.1 hj).1
        rw [HL.out] at hl
        exact HN.out j _ hl hj ⟨rfl, rfl⟩
      have HNO := Lib.hid hno
      have G := Lib.hid g
      clear hno g
      go_wp2_with (fail)
      refine bodyPost_ret (results_tmp2 rfl _ _ _) rfl ?_
      first | exact ⟨⟨_, rfl⟩, G.out.tail⟩ | (refine ⟨_, ?_, G.out.tail⟩; rw [if_neg HNO.out]; rfl)

end Go.Proofs.Ytmlkkeabgnhhnaa
