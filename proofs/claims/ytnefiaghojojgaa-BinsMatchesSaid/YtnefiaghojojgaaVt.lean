/- Type. -/
import Derived.Test.YtnefiaghojojgaaVm
namespace Go.Proofs.Ytnefiaghojojgaa
open Go.RowKit Go.Shelf
set_option linter.unusedVariables false
set_option maxRecDepth 100000
set_option linter.unusedSimpArgs false

def tyF (intra : Bool) (inc : Int) : Int := if intra then 3 + inc else 15
def tyA (intra : Bool) : Int := if intra then 6 else 16
def b01 (b : Bool) : Int := if b then 1 else 0
def tyE (n : Int) (intra : Bool) (inc : Int) : Int := if 0 ≤ n ∧ n ≤ 25 ∧ 0 ≤ inc ∧ inc ≤ 2 ∧ (intra = false → inc = 0) then 0 else 3
def tyB (n : Int) (intra : Bool) (inc : Int) : List (Int × Int) :=
  if tyE n intra inc = 0 then
    if n = 0 then [(tyF intra inc, 0)] else if n = 25 then [(tyF intra inc, 1)]
    else [(tyF intra inc, 1), (tyA intra, b01 (decide ((n - 1) / 12 = 1))), (tyA intra + 1, b01 (decide ((n - 1) / 4 % 3 ≠ 0)))]
      ++ (if (n - 1) / 4 % 3 = 0 then [] else [(tyA intra + 2, b01 (decide ((n - 1) / 4 % 3 = 2)))])
      ++ [(tyA intra + 3, b01 (decide ((n - 1) % 4 / 2 = 1))), (tyA intra + 4, b01 (decide ((n - 1) % 4 % 2 = 1)))]
  else []

section
variable {W w : World} {L : List AObj} {F : List (Nat × Obj)}
theorem cell_one {w : World} {B : Nat} {v : Value} {t : TypeId} (h : w.heap[B]? = some (.cells #[v] t (0, 0))) : w.cell? ⟨B, 0, none⟩ = some v ∧ w.frozen? ⟨B, 0, none⟩ = false :=
  ⟨by simp [World.cell?, h], by simp [World.frozen?, h]⟩
/-- Two plain blocks are two. -/
theorem Hp.two {p q : Nat × Obj} (h : Hp W w L (p :: q :: F)) : p.1 ≠ q.1 := by
  obtain ⟨b, o, ho, hF, hn, hL⟩ := h
  intro e
  simp [e] at hn
/-- What say finds and leaves. -/
@[reducible] def SayF (A B : Nat) (v : Value) (x : Int) (F : List (Nat × Obj)) : List (Nat × Obj) := (B, .cells #[v] 22 (0, 0)) :: (A, .cells #[.int .i64 x] 3 (0, 0)) :: F

set_option maxHeartbeats 2000000 in
theorem say_any {A B : Nat} {v : Value} {bs : List (Int × Int)} {x : Int} (h : Hp W w (aBn v bs :: L) (SayF A B v x F)) (hx : 0 ≤ x ∧ x ≤ 1000) (hb : bs.length ≤ 1000) (b : Bool) :
    Calls Try.prog 17 #[.bool b, .pointer (some ⟨A, 0, none⟩), .pointer (some ⟨B, 0, none⟩)] w fun e w' => e = .returned (.tuple #[]) ∧ ∃ sp cap, Hp W w' (aBn (.slice sp (bs.length + 1) cap) (bs ++ [(x, b01 b)]) :: L) (SayF A B (.slice sp (bs.length + 1) cap) (x + 1) F) := by
  obtain ⟨i0, hi, hz0, hz1, hz2⟩ := bin_info
  obtain ⟨sp0, cap0, rfl, _, _⟩ := h.sl_form 0 rfl
  obtain ⟨c1, f1⟩ := cell_one (h.blk (.head _))
  obtain ⟨c2, f2⟩ := cell_one (h.blk (.tail _ (.head _)))
  obtain ⟨hx1, hx2⟩ := hx
  have lB := lt_of_block (h.blk (.head _))
  have lA := lt_of_block (h.blk (.tail _ (.head _)))
  simp only at lA lB
  obtain ⟨n, hn⟩ : ∃ n, n = bs.length := ⟨_, rfl⟩
  rw [← hn] at hb c1
  simp only [← hn] at h ⊢
  have HN := Lib.hid hn
  have H := Lib.hid h
  clear h hn
  cases b with
  | true =>
    go_enter Try.func17, Try.ntmps17
    go_wp2_with (first | (at_builtin; refine wpList_append_hp rfl _ _ 22 rfl 27 i0 (bvl (0, 0)) 2 16 Try.underlying22 hi hz0 hz1 hz2 rfl (by decide) ((H.out.lost _).lost _) 0 at0 rfl ⟨w.heap.size + 1, 0, none⟩ 1 1 (bcs [(x, 1)]) rfl rfl ?c1 ?c2 ?c3 ?c4 ?_))
    case c1 => first | exact bin_new _ _ _ _ | exact fun j u hu => hu
    case c2 => exact bcs_one _
    case c3 => have := HN.out; unfold maxLen; omega
    case c4 => have := HN.out; omega
    intro v2 w1 H1
    obtain ⟨sp2, cap2, rfl, _, _⟩ := H1.sl_form 0 rfl
    rw [← bcs_append, ← HN.out] at H1
    obtain ⟨d1, g1⟩ := cell_one (H1.blk (.head _))
    obtain ⟨d2, g2⟩ := cell_one (H1.blk (.tail _ (.head _)))
    rw [← HN.out]
    have hAB := H1.two
    have H2 := Lib.hid H1
    clear H1
    go_wp2_with (fail)
    go_end0
    refine ⟨rfl, sp2, cap2, ?_⟩
    have e : n + 1 = (bs ++ [(x, b01 true)]).length := by simp [HN.out]
    have H3 := (H2.out.set 0 rfl 0 (.slice sp2 (n + 1) cap2)).set 1 rfl 0 (.int .i64 (x + 1))
    unfold aBn
    rw [← e]
    exact H3
  | false =>
    go_enter Try.func17, Try.ntmps17
    go_wp2_with (first | (at_builtin; refine wpList_append_hp rfl _ _ 22 rfl 27 i0 (bvl (0, 0)) 2 16 Try.underlying22 hi hz0 hz1 hz2 rfl (by decide) ((H.out.lost _).lost _) 0 at0 rfl ⟨w.heap.size + 1, 0, none⟩ 1 1 (bcs [(x, 0)]) rfl rfl ?c1 ?c2 ?c3 ?c4 ?_))
    case c1 => first | exact bin_new _ _ _ _ | exact fun j u hu => hu
    case c2 => exact bcs_one _
    case c3 => have := HN.out; unfold maxLen; omega
    case c4 => have := HN.out; omega
    intro v2 w1 H1
    obtain ⟨sp2, cap2, rfl, _, _⟩ := H1.sl_form 0 rfl
    rw [← bcs_append, ← HN.out] at H1
    obtain ⟨d1, g1⟩ := cell_one (H1.blk (.head _))
    obtain ⟨d2, g2⟩ := cell_one (H1.blk (.tail _ (.head _)))
    rw [← HN.out]
    have hAB := H1.two
    have H2 := Lib.hid H1
    clear H1
    go_wp2_with (fail)
    go_end0
    refine ⟨rfl, sp2, cap2, ?_⟩
    have e : n + 1 = (bs ++ [(x, b01 false)]).length := by simp [HN.out]
    have H3 := (H2.out.set 0 rfl 0 (.slice sp2 (n + 1) cap2)).set 1 rfl 0 (.int .i64 (x + 1))
    unfold aBn
    rw [← e]
    exact H3
theorem Hp.bn_lit (h : Hp W w L F) (c b : Int) : Hp W (w.alloc (.cells #[.int .i64 c, .int .u8 b] 27)) (aBn (.slice (some ⟨w.heap.size, 0, none⟩) 1 1) [(c, b)] :: L) F := by
  refine h.make ((Below.refl _ _).alloc (Nat.le_refl _) _) ⟨⟨rfl, .inr ⟨w.heap.size, 1, #[.int .i64 c, .int .u8 b], rfl, Nat.zero_le _, World.alloc_heap_new _ _, Nat.le_refl _, by unfold maxLen; omega, rfl, rfl⟩⟩, fun g hg => ?_⟩
  simp [Value.ownBlock] at hg
  subst hg
  simp

set_option maxHeartbeats 4000000 in
theorem type_bad (h : Hp W w L F) (n : Int) (intra : Bool) (inc : Int) (hb : tyE n intra inc ≠ 0) :
    Calls Try.prog 7 #[.int .i64 n, .bool intra, .int .i64 inc] w fun e w' => e = .returned (.tuple #[.slice none 0 0, .int .i64 3]) ∧ Hp W w' L F := by
  have H := Lib.hid h
  clear h
  have h0 : ¬ (0 ≤ n ∧ n ≤ 25 ∧ 0 ≤ inc ∧ inc ≤ 2 ∧ (intra = false → inc = 0)) := fun h => hb (if_pos h)
  clear hb
  by_cases h1 : n < 0
  · clear h0
    go_enter Try.func7, Try.ntmps7
    go_wp2_with (fail)
    exact bodyPost_ret (results_tmp2 rfl _ _ _) rfl ⟨rfl, H.out⟩
  by_cases h2 : 25 < n
  · clear h0
    go_enter Try.func7, Try.ntmps7
    go_wp2_with (fail)
    exact bodyPost_ret (results_tmp2 rfl _ _ _) rfl ⟨rfl, H.out⟩
  by_cases h3 : inc < 0
  · clear h0
    go_enter Try.func7, Try.ntmps7
    go_wp2_with (fail)
    exact bodyPost_ret (results_tmp2 rfl _ _ _) rfl ⟨rfl, H.out⟩
  by_cases h4 : 2 < inc
  · clear h0
    go_enter Try.func7, Try.ntmps7
    go_wp2_with (fail)
    exact bodyPost_ret (results_tmp2 rfl _ _ _) rfl ⟨rfl, H.out⟩
  cases intra with
  | true => exact absurd ⟨by omega, by omega, by omega, by omega, by simp⟩ h0
  | false =>
    have h5 : inc ≠ 0 := fun e => h0 ⟨by omega, by omega, by omega, by omega, fun _ => e⟩
    have h6 : (inc != 0) = true := by simpa using h5
    clear h0
    go_enter Try.func7, Try.ntmps7
    go_wp2_with (fail)
    exact bodyPost_ret (results_tmp2 rfl _ _ _) rfl ⟨rfl, H.out⟩

theorem dec_beq (a b : Int) : (a == b) = decide (a = b) := rfl
theorem dec_bne (a b : Int) : (a != b) = decide (a ≠ b) := by
  by_cases h : a = b <;> simp [h]

set_option maxHeartbeats 8000000 in
theorem type_t (h : Hp W w L F) (n : Int) (inc : Int) (h1 : 0 ≤ n) (h2 : n ≤ 25) (h3 : 0 ≤ inc) (h4 : inc ≤ 2) :
    Calls Try.prog 7 #[.int .i64 n, .bool true, .int .i64 inc] w fun e w' => ∃ v', e = .returned (.tuple #[v', .int .i64 0]) ∧ Hp W w' (aBn v' (tyB n true inc) :: L) F := by
  have H := Lib.hid h
  clear h
  have e0 : tyE n true inc = 0 := if_pos ⟨h1, h2, by omega, by omega, by simp⟩
  obtain ⟨X, hX⟩ : ∃ X, X = tyB n true inc := ⟨_, rfl⟩
  have hX2 := hX
  unfold tyB at hX2
  rw [if_pos e0] at hX2
  rw [← hX]
  clear hX e0
  by_cases z0 : n = 0
  · subst z0
    rw [if_pos rfl] at hX2
    have HX := Lib.hid hX2
    clear hX2
    go_enter Try.func7, Try.ntmps7
    go_wp2_with (fail)
    refine bodyPost_ret (results_tmp2 rfl _ _ _) rfl ⟨_, rfl, ?_⟩
    rw [HX.out]
    have h3 := (H.out.lost (.cells #[.int .i64 6] 3)).bn_lit (3 + inc) 0
    simp only [World.size_alloc] at h3
    exact h3
  rw [if_neg z0] at hX2
  by_cases z1 : n = 25
  · subst z1
    rw [if_pos rfl] at hX2
    have HX := Lib.hid hX2
    clear hX2 z0
    go_enter Try.func7, Try.ntmps7
    go_wp2_with (fail)
    refine bodyPost_ret (results_tmp2 rfl _ _ _) rfl ⟨_, rfl, ?_⟩
    rw [HX.out]
    have h3 := (H.out.lost (.cells #[.int .i64 6] 3)).bn_lit (3 + inc) 1
    simp only [World.size_alloc] at h3
    exact h3.lost _
  rw [if_neg z1] at hX2
  obtain ⟨m, hm⟩ : ∃ m, (n - 1) % 4 = m := ⟨_, rfl⟩
  obtain ⟨c, hc⟩ : ∃ c, (n - 1) / 4 % 3 = c := ⟨_, rfl⟩
  obtain ⟨l, hl⟩ : ∃ l, (n - 1) / 12 = l := ⟨_, rfl⟩
  rw [hm, hc, hl] at hX2
  have b1 : 0 ≤ m ∧ m ≤ 3 := by omega
  have b2 : 0 ≤ c ∧ c ≤ 2 := by omega
  have b3 : 0 ≤ l ∧ l ≤ 1 := by omega
  have b4 : 1 ≤ n := by omega
  have b5 : n < 25 := by omega
  obtain ⟨b11, b12⟩ := b1
  obtain ⟨b21, b22⟩ := b2
  obtain ⟨b31, b32⟩ := b3
  have Ha := (((H.out.alloc (.cells #[.int .i64 6] 3)).bn_lit (3 + inc) 1).alloc (.cells #[.slice (some ⟨w.heap.size + 1, 0, none⟩) 1 1] 22))
  simp only [World.size_alloc] at Ha
  by_cases hc0 : c = 0
  · subst hc0
    rw [if_pos rfl] at hX2
    have HX := Lib.hid hX2
    clear hX2 z0 z1
    go_enter Try.func7, Try.ntmps7
    go_wp2_with (first | (go_at_call 17; (with_reducible refine (say_any Ha ⟨by omega, by omega⟩ (by simp) _).mono ?_); rintro e w1 ⟨rfl, sp1, cp1, H1⟩; clear Ha; simp only [List.length_append, List.length_cons, List.length_nil, Nat.zero_add, Nat.reduceAdd] at H1) | (go_at_call 17; (with_reducible refine (say_any H1 ⟨by omega, by omega⟩ (by simp) _).mono ?_); rintro e w2 ⟨rfl, sp2, cp2, H2⟩; clear H1; simp only [List.length_append, List.length_cons, List.length_nil, Nat.zero_add, Nat.reduceAdd] at H2; obtain ⟨d1, g1⟩ := cell_one (H2.blk (.tail _ (.head _)))))
    have H3 := H2.set 1 rfl 0 (.int .i64 9)
    simp only [List.set_cons_succ, List.set_cons_zero] at H3
    have HH := Lib.hid H2
    clear H2
    go_wp2_with (first | (go_at_call 17; (with_reducible refine (say_any H3 ⟨by omega, by omega⟩ (by simp) _).mono ?_); rintro e w4 ⟨rfl, sp4, cp4, H4⟩; clear H3; simp only [List.length_append, List.length_cons, List.length_nil, Nat.zero_add, Nat.reduceAdd] at H4) | (go_at_call 17; (with_reducible refine (say_any H4 ⟨by omega, by omega⟩ (by simp) _).mono ?_); rintro e w5 ⟨rfl, sp5, cp5, H5⟩; clear H4; simp only [List.length_append, List.length_cons, List.length_nil, Nat.zero_add, Nat.reduceAdd] at H5; obtain ⟨d5, g5⟩ := cell_one (H5.blk (.head _))))
    have HZ := Lib.hid H5
    refine bodyPost_ret (results_tmp2 rfl _ _ _) rfl ⟨.slice sp5 5 cp5, rfl, ?_⟩
    rw [HX.out]
    exact HZ.out.drop.drop
  · rw [if_neg hc0] at hX2
    have hcn : (c == 0) = false := by simpa using hc0
    have hcm : (c != 0) = true := by simpa using hc0
    have HX := Lib.hid hX2
    clear hX2 z0 z1
    go_enter Try.func7, Try.ntmps7
    go_wp2_with (first | (go_at_call 17; (with_reducible refine (say_any Ha ⟨by omega, by omega⟩ (by simp) _).mono ?_); rintro e w1 ⟨rfl, sp1, cp1, H1⟩; clear Ha; simp only [List.length_append, List.length_cons, List.length_nil, Nat.zero_add, Nat.reduceAdd] at H1) | (go_at_call 17; (with_reducible refine (say_any H1 ⟨by omega, by omega⟩ (by simp) _).mono ?_); rintro e w2 ⟨rfl, sp2, cp2, H2⟩; clear H1; simp only [List.length_append, List.length_cons, List.length_nil, Nat.zero_add, Nat.reduceAdd] at H2) | (go_at_call 17; (with_reducible refine (say_any H2 ⟨by omega, by omega⟩ (by simp) _).mono ?_); rintro e w3 ⟨rfl, sp3, cp3, H3⟩; clear H2; simp only [List.length_append, List.length_cons, List.length_nil, Nat.zero_add, Nat.reduceAdd] at H3) | (go_at_call 17; (with_reducible refine (say_any H3 ⟨by omega, by omega⟩ (by simp) _).mono ?_); rintro e w4 ⟨rfl, sp4, cp4, H4⟩; clear H3; simp only [List.length_append, List.length_cons, List.length_nil, Nat.zero_add, Nat.reduceAdd] at H4) | (go_at_call 17; (with_reducible refine (say_any H4 ⟨by omega, by omega⟩ (by simp) _).mono ?_); rintro e w5 ⟨rfl, sp5, cp5, H5⟩; clear H4; simp only [List.length_append, List.length_cons, List.length_nil, Nat.zero_add, Nat.reduceAdd] at H5; obtain ⟨d5, g5⟩ := cell_one (H5.blk (.head _))))
    have HZ := Lib.hid H5
    refine bodyPost_ret (results_tmp2 rfl _ _ _) rfl ⟨.slice sp5 6 cp5, rfl, ?_⟩
    rw [HX.out, decide_eq_true hc0]
    exact HZ.out.drop.drop
set_option maxHeartbeats 8000000 in
theorem type_f (h : Hp W w L F) (n : Int) (h1 : 0 ≤ n) (h2 : n ≤ 25) :
    Calls Try.prog 7 #[.int .i64 n, .bool false, .int .i64 0] w fun e w' => ∃ v', e = .returned (.tuple #[v', .int .i64 0]) ∧ Hp W w' (aBn v' (tyB n false 0) :: L) F := by
  have H := Lib.hid h
  clear h
  have e0 : tyE n false 0 = 0 := if_pos ⟨h1, h2, by omega, by omega, by simp⟩
  obtain ⟨X, hX⟩ : ∃ X, X = tyB n false 0 := ⟨_, rfl⟩
  have hX2 := hX
  unfold tyB at hX2
  rw [if_pos e0] at hX2
  rw [← hX]
  clear hX e0
  by_cases z0 : n = 0
  · subst z0
    rw [if_pos rfl] at hX2
    have HX := Lib.hid hX2
    clear hX2
    go_enter Try.func7, Try.ntmps7
    go_wp2_with (fail)
    refine bodyPost_ret (results_tmp2 rfl _ _ _) rfl ⟨_, rfl, ?_⟩
    rw [HX.out]
    have h3 := (H.out.lost (.cells #[.int .i64 16] 3)).bn_lit 15 0
    simp only [World.size_alloc] at h3
    exact h3
  rw [if_neg z0] at hX2
  by_cases z1 : n = 25
  · subst z1
    rw [if_pos rfl] at hX2
    have HX := Lib.hid hX2
    clear hX2 z0
    go_enter Try.func7, Try.ntmps7
    go_wp2_with (fail)
    refine bodyPost_ret (results_tmp2 rfl _ _ _) rfl ⟨_, rfl, ?_⟩
    rw [HX.out]
    have h3 := (H.out.lost (.cells #[.int .i64 16] 3)).bn_lit 15 1
    simp only [World.size_alloc] at h3
    exact h3.lost _
  rw [if_neg z1] at hX2
  obtain ⟨m, hm⟩ : ∃ m, (n - 1) % 4 = m := ⟨_, rfl⟩
  obtain ⟨c, hc⟩ : ∃ c, (n - 1) / 4 % 3 = c := ⟨_, rfl⟩
  obtain ⟨l, hl⟩ : ∃ l, (n - 1) / 12 = l := ⟨_, rfl⟩
  rw [hm, hc, hl] at hX2
  have b1 : 0 ≤ m ∧ m ≤ 3 := by omega
  have b2 : 0 ≤ c ∧ c ≤ 2 := by omega
  have b3 : 0 ≤ l ∧ l ≤ 1 := by omega
  have b4 : 1 ≤ n := by omega
  have b5 : n < 25 := by omega
  obtain ⟨b11, b12⟩ := b1
  obtain ⟨b21, b22⟩ := b2
  obtain ⟨b31, b32⟩ := b3
  have Ha := (((H.out.alloc (.cells #[.int .i64 16] 3)).bn_lit 15 1).alloc (.cells #[.slice (some ⟨w.heap.size + 1, 0, none⟩) 1 1] 22))
  simp only [World.size_alloc] at Ha
  by_cases hc0 : c = 0
  · subst hc0
    rw [if_pos rfl] at hX2
    have HX := Lib.hid hX2
    clear hX2 z0 z1
    go_enter Try.func7, Try.ntmps7
    go_wp2_with (first | (go_at_call 17; (with_reducible refine (say_any Ha ⟨by omega, by omega⟩ (by simp) _).mono ?_); rintro e w1 ⟨rfl, sp1, cp1, H1⟩; clear Ha; simp only [List.length_append, List.length_cons, List.length_nil, Nat.zero_add, Nat.reduceAdd] at H1) | (go_at_call 17; (with_reducible refine (say_any H1 ⟨by omega, by omega⟩ (by simp) _).mono ?_); rintro e w2 ⟨rfl, sp2, cp2, H2⟩; clear H1; simp only [List.length_append, List.length_cons, List.length_nil, Nat.zero_add, Nat.reduceAdd] at H2; obtain ⟨d1, g1⟩ := cell_one (H2.blk (.tail _ (.head _)))))
    have H3 := H2.set 1 rfl 0 (.int .i64 19)
    simp only [List.set_cons_succ, List.set_cons_zero] at H3
    have HH := Lib.hid H2
    clear H2
    go_wp2_with (first | (go_at_call 17; (with_reducible refine (say_any H3 ⟨by omega, by omega⟩ (by simp) _).mono ?_); rintro e w4 ⟨rfl, sp4, cp4, H4⟩; clear H3; simp only [List.length_append, List.length_cons, List.length_nil, Nat.zero_add, Nat.reduceAdd] at H4) | (go_at_call 17; (with_reducible refine (say_any H4 ⟨by omega, by omega⟩ (by simp) _).mono ?_); rintro e w5 ⟨rfl, sp5, cp5, H5⟩; clear H4; simp only [List.length_append, List.length_cons, List.length_nil, Nat.zero_add, Nat.reduceAdd] at H5; obtain ⟨d5, g5⟩ := cell_one (H5.blk (.head _))))
    have HZ := Lib.hid H5
    refine bodyPost_ret (results_tmp2 rfl _ _ _) rfl ⟨.slice sp5 5 cp5, rfl, ?_⟩
    rw [HX.out]
    exact HZ.out.drop.drop
  · rw [if_neg hc0] at hX2
    have hcn : (c == 0) = false := by simpa using hc0
    have hcm : (c != 0) = true := by simpa using hc0
    have HX := Lib.hid hX2
    clear hX2 z0 z1
    go_enter Try.func7, Try.ntmps7
    go_wp2_with (first | (go_at_call 17; (with_reducible refine (say_any Ha ⟨by omega, by omega⟩ (by simp) _).mono ?_); rintro e w1 ⟨rfl, sp1, cp1, H1⟩; clear Ha; simp only [List.length_append, List.length_cons, List.length_nil, Nat.zero_add, Nat.reduceAdd] at H1) | (go_at_call 17; (with_reducible refine (say_any H1 ⟨by omega, by omega⟩ (by simp) _).mono ?_); rintro e w2 ⟨rfl, sp2, cp2, H2⟩; clear H1; simp only [List.length_append, List.length_cons, List.length_nil, Nat.zero_add, Nat.reduceAdd] at H2) | (go_at_call 17; (with_reducible refine (say_any H2 ⟨by omega, by omega⟩ (by simp) _).mono ?_); rintro e w3 ⟨rfl, sp3, cp3, H3⟩; clear H2; simp only [List.length_append, List.length_cons, List.length_nil, Nat.zero_add, Nat.reduceAdd] at H3) | (go_at_call 17; (with_reducible refine (say_any H3 ⟨by omega, by omega⟩ (by simp) _).mono ?_); rintro e w4 ⟨rfl, sp4, cp4, H4⟩; clear H3; simp only [List.length_append, List.length_cons, List.length_nil, Nat.zero_add, Nat.reduceAdd] at H4) | (go_at_call 17; (with_reducible refine (say_any H4 ⟨by omega, by omega⟩ (by simp) _).mono ?_); rintro e w5 ⟨rfl, sp5, cp5, H5⟩; clear H4; simp only [List.length_append, List.length_cons, List.length_nil, Nat.zero_add, Nat.reduceAdd] at H5; obtain ⟨d5, g5⟩ := cell_one (H5.blk (.head _))))
    have HZ := Lib.hid H5
    refine bodyPost_ret (results_tmp2 rfl _ _ _) rfl ⟨.slice sp5 6 cp5, rfl, ?_⟩
    rw [HX.out, decide_eq_true hc0]
    exact HZ.out.drop.drop
theorem type_any (h : Hp W w L F) (n : Int) (intra : Bool) (inc : Int) :
    Calls Try.prog 7 #[.int .i64 n, .bool intra, .int .i64 inc] w fun e w' => ∃ v', e = .returned (.tuple #[v', .int .i64 (tyE n intra inc)]) ∧ Hp W w' (aBn v' (tyB n intra inc) :: L) F := by
  by_cases hE : tyE n intra inc = 0
  · have hc : 0 ≤ n ∧ n ≤ 25 ∧ 0 ≤ inc ∧ inc ≤ 2 ∧ (intra = false → inc = 0) := by unfold tyE at hE; split at hE <;> first | assumption | omega
    rw [hE]
    cases intra with
    | true => exact type_t h n inc hc.1 hc.2.1 hc.2.2.1 hc.2.2.2.1
    | false =>
      obtain rfl := hc.2.2.2.2 rfl
      exact type_f h n hc.1 hc.2.1
  · have hB : tyB n intra inc = [] := if_neg hE
    have h3 : tyE n intra inc = 3 := by
      by_cases c : 0 ≤ n ∧ n ≤ 25 ∧ 0 ≤ inc ∧ inc ≤ 2 ∧ (intra = false → inc = 0)
      · exact absurd (if_pos c) hE
      · exact if_neg c
    refine (type_bad h n intra inc hE).mono ?_
    rintro e w' ⟨rfl, h'⟩
    rw [hB, h3]
    exact ⟨_, rfl, h'.sl_nil _ _⟩
end

end Go.Proofs.Ytnefiaghojojgaa
