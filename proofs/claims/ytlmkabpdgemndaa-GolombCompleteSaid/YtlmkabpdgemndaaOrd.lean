/- The walk of GolombOrder. -/
import Derived.Test.YtlmkabpdgemndaaGap
namespace Go.Proofs.Ytlmkabpdgemndaa
open Go.RowKit
set_option linter.unusedVariables false
set_option maxRecDepth 100000
set_option linter.unusedSimpArgs false

theorem ueN_mono {a b : Nat} (h : a ≤ b) : ueN a ≤ ueN b := by
  have g1 := (ueN_bounds a).1
  have g4 := (ueN_bounds b).2
  have := (Nat.pow_lt_pow_iff_right (a := 2) (by omega)).1 (Nat.lt_of_le_of_lt (Nat.le_trans g1 (show a + 1 ≤ b + 1 by omega)) g4)
  omega
theorem cB_len_mono {wh : Int} {m k a b : Nat} (hw : wh % 4 ≠ 1) (h : a ≤ b) : (cB wh m k a).length ≤ (cB wh m k b).length := by
  have h4 : wh % 4 = 0 ∨ wh % 4 = 2 ∨ wh % 4 = 3 := by omega
  rcases h4 with c | c | c
  · have e : ∀ v : Nat, cB wh m k v = ueB v := fun v => by unfold cB; rw [if_pos c]
    rw [e, e, ueB_length, ueB_length]; have := ueN_mono h; omega
  · have e : ∀ v : Nat, cB wh m k v = teB m v := fun v => by unfold cB; rw [if_neg (by omega), if_neg (by omega), if_pos c]
    rw [e, e]
    unfold teB
    by_cases m0 : m = 0
    · rw [if_pos m0, if_pos m0]; exact Nat.le_refl _
    · rw [if_neg m0, if_neg m0]
      by_cases m1 : m = 1
      · rw [if_pos m1, if_pos m1, bitsN_length, bitsN_length]; exact Nat.le_refl _
      · rw [if_neg m1, if_neg m1, ueB_length, ueB_length]; have := ueN_mono h; omega
  · have e : ∀ v : Nat, cB wh m k v = ukB k v := fun v => by unfold cB; rw [if_neg (by omega), if_neg (by omega), if_neg (by omega)]
    rw [e, e]
    unfold ukB
    rw [List.length_append, List.length_append, ueB_length, ueB_length, bitsN_length, bitsN_length]
    have := ueN_mono (Nat.div_le_div_right (c := 2 ^ k) h); omega

set_option maxHeartbeats 1000000 in
theorem order_walk (wh : Int) (m : Nat) (k : Int) (u v : Nat) (h0 : 0 ≤ wh) (h9 : wh ≤ 255) (hm : m < 18446744073709551616) (h1 : -9223372036854775808 ≤ k) (h2 : k ≤ 9223372036854775807) (hu : u < 18446744073709551616) (hv : v < 18446744073709551616) (W : World) :
    Calls Try.prog 7 #[.agg #[.int .u8 wh, .int .u64 m, .int .i64 k, .int .u64 u], .int .u64 v] W fun e w' => e = .returned (.bool true) ∧ Below W.heap.size W w' := by
  by_cases c : wh % 4 = 1
  · have dc : (wh % 4 == 1) = true := by rw [c]; rfl
    have hw1 : (0 : Int) % 4 ≠ 1 := by decide
    have h09 := And.intro h0 h9
    clear h0 h9
    have h0 : (0 : Int) ≤ 0 := by decide
    have h9 : (0 : Int) ≤ 255 := by decide
    have okA := fit_ok h0 h9 m k u
    have okB := fit_ok h0 h9 m k v
    have H0 : Hp W ((W.alloc (.cells #[.int .u8 0, .int .u64 m, .int .i64 k, .int .u64 u] 42 (0, 0))).alloc (.cells #[.int .u8 0, .int .u64 m, .int .i64 k, .int .u64 v] 42 (0, 0))) [] [(W.heap.size + 1, .cells #[.int .u8 0, .int .u64 m, .int .i64 k, .int .u64 v] 42 (0, 0)), (W.heap.size, .cells #[.int .u8 0, .int .u64 m, .int .i64 k, .int .u64 u] 42 (0, 0))] := by
      have := ((Hp.start W).alloc (.cells #[.int .u8 0, .int .u64 m, .int .i64 k, .int .u64 u] 42 (0, 0))).alloc (.cells #[.int .u8 0, .int .u64 m, .int .i64 k, .int .u64 v] 42 (0, 0))
      simpa using this
    go_enter Try.func7, Try.ntmps7
    go_wp2_with (fail)
    generalize hF : ([(W.heap.size + 1, .cells #[.int .u8 0, .int .u64 m, .int .i64 k, .int .u64 v] 42 (0, 0)), (W.heap.size, .cells #[.int .u8 0, .int .u64 m, .int .i64 k, .int .u64 u] 42 (0, 0))] : List (Nat × Obj)) = F at H0
    generalize ((W.alloc (.cells #[.int .u8 0, .int .u64 m, .int .i64 k, .int .u64 u] 42 (0, 0))).alloc (.cells #[.int .u8 0, .int .u64 m, .int .i64 k, .int .u64 v] 42 (0, 0))) = w2 at *
    obtain ⟨oA, hoA⟩ : ∃ o : Obj, o = .cells #[.int .u8 0, .int .u64 (gM m), .int .i64 (gK k), .int .u64 (gV 0 m k u)] 42 (0, 0) := ⟨_, rfl⟩
    obtain ⟨oB, hoB⟩ : ∃ o : Obj, o = .cells #[.int .u8 0, .int .u64 (gM m), .int .i64 (gK k), .int .u64 (gV 0 m k v)] 42 (0, 0) := ⟨_, rfl⟩
    obtain ⟨oZ, hoZ⟩ : ∃ o : Obj, o = .cells #[.int .u8 0, .int .u64 0, .int .i64 0, .int .u64 0] 42 (0, 0) := ⟨_, rfl⟩
    generalize ha0 : Act.mk _ _ = a0
    haveI : Nonempty (HpW W [] F) := ⟨⟨_, H0⟩⟩
    have cx : ∀ x : HpW W [] F, (x.w.cell? ⟨W.heap.size, 0, none⟩ = some (.int .u8 0) ∧ x.w.cell? ⟨W.heap.size, 1, none⟩ = some (.int .u64 m) ∧ x.w.cell? ⟨W.heap.size, 2, none⟩ = some (.int .i64 k) ∧ x.w.cell? ⟨W.heap.size, 3, none⟩ = some (.int .u64 u)) := fun x => cells4 (t := 42) (x.h.blk (p := (W.heap.size, _)) (by rw [← hF]; simp))
    have cy : ∀ x : HpW W [] F, (x.w.cell? ⟨W.heap.size + 1, 0, none⟩ = some (.int .u8 0) ∧ x.w.cell? ⟨W.heap.size + 1, 1, none⟩ = some (.int .u64 m) ∧ x.w.cell? ⟨W.heap.size + 1, 2, none⟩ = some (.int .i64 k) ∧ x.w.cell? ⟨W.heap.size + 1, 3, none⟩ = some (.int .u64 v)) := fun x => cells4 (t := 42) (x.h.blk (p := (W.heap.size + 1, _)) (by rw [← hF]; simp))
    have x0 := fun x => (cx x).1; have x1 := fun x => (cx x).2.1; have x2 := fun x => (cx x).2.2.1; have x3 := fun x => (cx x).2.2.2
    have y0 := fun x => (cy x).1; have y1 := fun x => (cy x).2.1; have y2 := fun x => (cy x).2.2.1; have y3 := fun x => (cy x).2.2.2
    clear cx cy
    have HF := Lib.hid hF; clear hF
    have hsz : a0.tmps.size = 37 := by rw [← ha0]; rfl
    let I : Array Bool → Act → World → Prop := fun l a w => ∃ (vals : Nat → Value) (b4 : Nat) (b5 : Nat), a = fillA [(0, 16), (1, 17), (2, 18), (3, 19), (4, 6), (5, 7)] vals l a0 ∧ (l.getD 0 false = true → vals 0 = .agg #[.int .u8 0, .int .u64 m, .int .i64 k, .int .u64 u]) ∧ (l.getD 1 false = true → vals 1 = .agg #[.int .u8 0, .int .u64 (gM m), .int .i64 (gK k), .int .u64 (gV 0 m k u)]) ∧ (l.getD 2 false = true → vals 2 = .agg #[.int .u8 0, .int .u64 m, .int .i64 k, .int .u64 v]) ∧ (l.getD 3 false = true → vals 3 = .agg #[.int .u8 0, .int .u64 (gM m), .int .i64 (gK k), .int .u64 (gV 0 m k v)]) ∧ (l.getD 4 false = true → vals 4 = .pointer (some ⟨b4, 0, none⟩)) ∧ (l.getD 5 false = true → vals 5 = .pointer (some ⟨b5, 0, none⟩)) ∧ (l.getD 6 false = true → l.getD 4 false = true) ∧ (l.getD 7 false = true → l.getD 5 false = true) ∧ Hp W w [] ((if l.getD 4 false = true then [(b4, if l.getD 6 false = true then oA else oZ)] else []) ++ (if l.getD 5 false = true then [(b5, if l.getD 7 false = true then oB else oZ)] else []) ++ F)
    refine wp_region_inv I (by kernel_rfl) ?_ ?_ ?_
    · exact ⟨fun _ => undef, 0, 0, by simp [fillA], by simp, by simp, by simp, by simp, by simp, by simp, by simp, by simp, by simpa using H0.drew⟩
    · intro l a w i hI hs hi
      obtain ⟨vals, b4, b5, rfl, v0, v1, v2, v3, v4, v5, v6, v7, hH⟩ := hI
      obtain ⟨hu1, hu2⟩ := ready_unlisted hs hi
      have hZ : Hp W w [] F := by
        by_cases c4 : l.getD 4 false = true <;> by_cases c5 : l.getD 5 false = true <;> simp only [c4, c5, if_true, if_false, List.nil_append, List.cons_append, List.append_assoc, Bool.false_eq_true, ↓reduceIte] at hH <;> first | exact hH | exact hH.drop | exact hH.drop.drop | exact hH.drop.drop.drop
      have hi8 := (ready_false hs hi).1
      have hi8' : i = 0 ∨ i = 1 ∨ i = 2 ∨ i = 3 ∨ i = 4 ∨ i = 5 ∨ i = 6 ∨ i = 7 := by simp at hi8; omega
      rcases hi8' with rfl | rfl | rfl | rfl | rfl | rfl | rfl | rfl
      · refine wpOp_of rfl rfl ?_
        have hput := fun v => fillA_put (vals := vals) (a := a0) v (show (0, 16) ∈ [(0, 16), (1, 17), (2, 18), (3, 19), (4, 6), (5, 7)] by simp) (by decide) (by decide) hu1 hu2
        have eb : (fillA [(0, 16), (1, 17), (2, 18), (3, 19), (4, 6), (5, 7)] vals l a0).tmps[2]?.getD undef = .pointer (some ⟨W.heap.size, 0, none⟩) := by rw [fillA_get_out (by simp), ← ha0]; rfl
        have k0 := x0 ⟨w, hZ⟩
        have k1 := x1 ⟨w, hZ⟩
        have k2 := x2 ⟨w, hZ⟩
        have k3 := x3 ⟨w, hZ⟩
        simp only at k0 k1 k2 k3
        generalize hA : fillA [(0, 16), (1, 17), (2, 18), (3, 19), (4, 6), (5, 7)] vals l a0 = A at *
        go_simp
        refine ⟨updV vals 0 _, b4, b5, hput _, ?_, ?_, ?_, ?_, ?_, ?_, ?_, ?_, ?_⟩
        all_goals first | (intro _; rfl) | (simp (discharger := decide) only [getD_set_ne, updV_ne]; assumption) | (simp (discharger := decide) only [getD_set_ne]; assumption)
      · refine wpOp_of rfl rfl ?_
        have d0 := ready_deps hi (o := _) rfl ⟨0, .data⟩ (by simp) rfl
        have hput := fun v => fillA_put (vals := vals) (a := a0) v (show (1, 17) ∈ [(0, 16), (1, 17), (2, 18), (3, 19), (4, 6), (5, 7)] by simp) (by decide) (by decide) hu1 hu2
        have e16 := (fillA_get_in (vals := vals) (a := a0) (show (0, 16) ∈ [(0, 16), (1, 17), (2, 18), (3, 19), (4, 6), (5, 7)] by simp) (by decide) (by rw [hsz]; decide) d0).trans (v0 d0)
        generalize hA : fillA [(0, 16), (1, 17), (2, 18), (3, 19), (4, 6), (5, 7)] vals l a0 = A at *
        go_simp
        refine (gfit_hp hH 0 m k u h0 h9 hm h1 h2 hu).mono ?_
        rintro e w1 ⟨rfl, hH1⟩
        refine ⟨updV vals 1 _, b4, b5, hput _, ?_, ?_, ?_, ?_, ?_, ?_, ?_, ?_, ?_⟩
        all_goals first | (intro _; rfl) | (simp (discharger := decide) only [getD_set_ne, updV_ne]; assumption) | (simp (discharger := decide) only [getD_set_ne]; assumption)
      · refine wpOp_of rfl rfl ?_
        have hput := fun v => fillA_put (vals := vals) (a := a0) v (show (2, 18) ∈ [(0, 16), (1, 17), (2, 18), (3, 19), (4, 6), (5, 7)] by simp) (by decide) (by decide) hu1 hu2
        have eb : (fillA [(0, 16), (1, 17), (2, 18), (3, 19), (4, 6), (5, 7)] vals l a0).tmps[5]?.getD undef = .pointer (some ⟨W.heap.size + 1, 0, none⟩) := by rw [fillA_get_out (by simp), ← ha0]; rfl
        have k0 := y0 ⟨w, hZ⟩
        have k1 := y1 ⟨w, hZ⟩
        have k2 := y2 ⟨w, hZ⟩
        have k3 := y3 ⟨w, hZ⟩
        simp only at k0 k1 k2 k3
        generalize hA : fillA [(0, 16), (1, 17), (2, 18), (3, 19), (4, 6), (5, 7)] vals l a0 = A at *
        go_simp
        refine ⟨updV vals 2 _, b4, b5, hput _, ?_, ?_, ?_, ?_, ?_, ?_, ?_, ?_, ?_⟩
        all_goals first | (intro _; rfl) | (simp (discharger := decide) only [getD_set_ne, updV_ne]; assumption) | (simp (discharger := decide) only [getD_set_ne]; assumption)
      · refine wpOp_of rfl rfl ?_
        have d2 := ready_deps hi (o := _) rfl ⟨2, .data⟩ (by simp) rfl
        have hput := fun v => fillA_put (vals := vals) (a := a0) v (show (3, 19) ∈ [(0, 16), (1, 17), (2, 18), (3, 19), (4, 6), (5, 7)] by simp) (by decide) (by decide) hu1 hu2
        have e18 := (fillA_get_in (vals := vals) (a := a0) (show (2, 18) ∈ [(0, 16), (1, 17), (2, 18), (3, 19), (4, 6), (5, 7)] by simp) (by decide) (by rw [hsz]; decide) d2).trans (v2 d2)
        generalize hA : fillA [(0, 16), (1, 17), (2, 18), (3, 19), (4, 6), (5, 7)] vals l a0 = A at *
        go_simp
        refine (gfit_hp hH 0 m k v h0 h9 hm h1 h2 hv).mono ?_
        rintro e w1 ⟨rfl, hH1⟩
        refine ⟨updV vals 3 _, b4, b5, hput _, ?_, ?_, ?_, ?_, ?_, ?_, ?_, ?_, ?_⟩
        all_goals first | (intro _; rfl) | (simp (discharger := decide) only [getD_set_ne, updV_ne]; assumption) | (simp (discharger := decide) only [getD_set_ne]; assumption)
      · refine wpOp_of rfl rfl ?_
        have hput := fun v => fillA_put (vals := vals) (a := a0) v (show (4, 6) ∈ [(0, 16), (1, 17), (2, 18), (3, 19), (4, 6), (5, 7)] by simp) (by decide) (by decide) hu1 hu2
        generalize hA : fillA [(0, 16), (1, 17), (2, 18), (3, 19), (4, 6), (5, 7)] vals l a0 = A at *
        go_simp
        have hst : l.getD 6 false = false := by cases hc : l.getD 6 false with | false => rfl | true => (have := v6 hc; rw [hu2] at this; cases this)
        refine ⟨updV vals 4 _, w.heap.size, b5, hput _, ?_, ?_, ?_, ?_, ?_, ?_, ?_, ?_, ?_⟩
        all_goals first | (intro _; rfl) | (intro _; exact getD_set_self hu1) | (simp (discharger := decide) only [getD_set_ne, updV_ne]; assumption) | (simp (discharger := decide) only [getD_set_ne]; assumption) | skip
        rw [hu2] at hH
        simp (discharger := decide) only [getD_set_self hu1, getD_set_ne, hst, if_true, if_false, List.nil_append, List.cons_append, List.append_assoc, Bool.false_eq_true, ↓reduceIte] at hH ⊢
        refine Hp.perm (hH.alloc _) ?_
        rw [← hoZ]
        all_goals (exact List.Perm.refl _)
      · refine wpOp_of rfl rfl ?_
        have hput := fun v => fillA_put (vals := vals) (a := a0) v (show (5, 7) ∈ [(0, 16), (1, 17), (2, 18), (3, 19), (4, 6), (5, 7)] by simp) (by decide) (by decide) hu1 hu2
        generalize hA : fillA [(0, 16), (1, 17), (2, 18), (3, 19), (4, 6), (5, 7)] vals l a0 = A at *
        go_simp
        have hst : l.getD 7 false = false := by cases hc : l.getD 7 false with | false => rfl | true => (have := v7 hc; rw [hu2] at this; cases this)
        refine ⟨updV vals 5 _, b4, w.heap.size, hput _, ?_, ?_, ?_, ?_, ?_, ?_, ?_, ?_, ?_⟩
        all_goals first | (intro _; rfl) | (intro _; exact getD_set_self hu1) | (simp (discharger := decide) only [getD_set_ne, updV_ne]; assumption) | (simp (discharger := decide) only [getD_set_ne]; assumption) | skip
        rw [hu2] at hH
        simp (discharger := decide) only [getD_set_self hu1, getD_set_ne, hst, if_true, if_false, List.nil_append, List.cons_append, List.append_assoc, Bool.false_eq_true, ↓reduceIte] at hH ⊢
        refine Hp.perm (hH.alloc _) ?_
        rw [← hoZ]
        all_goals (cases l.getD 4 false <;> simp only [Bool.false_eq_true, ↓reduceIte, List.nil_append, List.cons_append] <;> first | exact List.Perm.refl _ | exact List.Perm.swap _ _ _)
      · refine wpOp_of rfl rfl ?_
        have d4 := ready_deps hi (o := _) rfl ⟨4, .data⟩ (by simp) rfl
        have d1 := ready_deps hi (o := _) rfl ⟨1, .data⟩ (by simp) rfl
        have hput : RowKit.Hid (fillA [(0, 16), (1, 17), (2, 18), (3, 19), (4, 6), (5, 7)] vals l a0 = fillA [(0, 16), (1, 17), (2, 18), (3, 19), (4, 6), (5, 7)] vals (l.setIfInBounds 6 true) a0) := Lib.hid <| fillA_congr a0 (fun x hx => ⟨(getD_set_ne (by simp only [List.mem_cons, List.not_mem_nil, or_false] at hx; rcases hx with rfl | rfl | rfl | rfl | rfl | rfl <;> decide)).symm, fun _ => rfl⟩)
        have e6 := (fillA_get_in (vals := vals) (a := a0) (show (4, 6) ∈ [(0, 16), (1, 17), (2, 18), (3, 19), (4, 6), (5, 7)] by simp) (by decide) (by rw [hsz]; decide) d4).trans (v4 d4)
        have e17 := (fillA_get_in (vals := vals) (a := a0) (show (1, 17) ∈ [(0, 16), (1, 17), (2, 18), (3, 19), (4, 6), (5, 7)] by simp) (by decide) (by rw [hsz]; decide) d1).trans (v1 d1)
        have d5 := ready_deps hi (o := _) rfl ⟨5, .phase⟩ (by simp) rfl
        rw [d4, d5, hu2] at hH
        simp only [if_true, if_false, List.nil_append, List.cons_append, List.append_assoc, Bool.false_eq_true, ↓reduceIte] at hH
        have hb := hH.blk (p := (b4, oZ)) (by simp)
        rw [hoZ] at hb
        obtain ⟨c0, c1, c2, c3⟩ := cells4 hb
        have fr : ∀ q, w.frozen? ⟨b4, q, none⟩ = false := fun q => free_of hb
        have f0 := fr 0; have f1 := fr 1; have f2 := fr 2; have f3 := fr 3
        generalize hA : fillA [(0, 16), (1, 17), (2, 18), (3, 19), (4, 6), (5, 7)] vals l a0 = A at *
        go_simp
        refine ⟨vals, b4, b5, hput.out, ?_, ?_, ?_, ?_, ?_, ?_, ?_, ?_, ?_⟩
        all_goals first | (simp (discharger := decide) only [getD_set_ne]; assumption) | (intro _; simp (discharger := decide) only [getD_set_ne]; assumption) | skip
        simp (discharger := decide) only [getD_set_self hu1, getD_set_ne, d4, d5, if_true, if_false, List.nil_append, List.cons_append, List.append_assoc, Bool.false_eq_true, ↓reduceIte]
        rw [hoA]
        exact (((hH.set 0 (by rw [hoZ]; rfl) 0 _).set 0 rfl 1 _).set 0 rfl 2 _).set 0 rfl 3 _
      · refine wpOp_of rfl rfl ?_
        have d5 := ready_deps hi (o := _) rfl ⟨5, .data⟩ (by simp) rfl
        have d3 := ready_deps hi (o := _) rfl ⟨3, .data⟩ (by simp) rfl
        have hput : RowKit.Hid (fillA [(0, 16), (1, 17), (2, 18), (3, 19), (4, 6), (5, 7)] vals l a0 = fillA [(0, 16), (1, 17), (2, 18), (3, 19), (4, 6), (5, 7)] vals (l.setIfInBounds 7 true) a0) := Lib.hid <| fillA_congr a0 (fun x hx => ⟨(getD_set_ne (by simp only [List.mem_cons, List.not_mem_nil, or_false] at hx; rcases hx with rfl | rfl | rfl | rfl | rfl | rfl <;> decide)).symm, fun _ => rfl⟩)
        have e7 := (fillA_get_in (vals := vals) (a := a0) (show (5, 7) ∈ [(0, 16), (1, 17), (2, 18), (3, 19), (4, 6), (5, 7)] by simp) (by decide) (by rw [hsz]; decide) d5).trans (v5 d5)
        have e19 := (fillA_get_in (vals := vals) (a := a0) (show (3, 19) ∈ [(0, 16), (1, 17), (2, 18), (3, 19), (4, 6), (5, 7)] by simp) (by decide) (by rw [hsz]; decide) d3).trans (v3 d3)
        have d4 := ready_deps hi (o := _) rfl ⟨4, .phase⟩ (by simp) rfl
        rw [d4, d5, hu2] at hH
        simp only [if_true, if_false, List.nil_append, List.cons_append, List.append_assoc, Bool.false_eq_true, ↓reduceIte] at hH
        have hb := hH.blk (p := (b5, oZ)) (by simp)
        rw [hoZ] at hb
        obtain ⟨c0, c1, c2, c3⟩ := cells4 hb
        have fr : ∀ q, w.frozen? ⟨b5, q, none⟩ = false := fun q => free_of hb
        have f0 := fr 0; have f1 := fr 1; have f2 := fr 2; have f3 := fr 3
        generalize hA : fillA [(0, 16), (1, 17), (2, 18), (3, 19), (4, 6), (5, 7)] vals l a0 = A at *
        go_simp
        refine ⟨vals, b4, b5, hput.out, ?_, ?_, ?_, ?_, ?_, ?_, ?_, ?_, ?_⟩
        all_goals first | (simp (discharger := decide) only [getD_set_ne]; assumption) | (intro _; simp (discharger := decide) only [getD_set_ne]; assumption) | skip
        simp (discharger := decide) only [getD_set_self hu1, getD_set_ne, d4, d5, if_true, if_false, List.nil_append, List.cons_append, List.append_assoc, Bool.false_eq_true, ↓reduceIte]
        rw [hoB]
        exact (((hH.set 1 (by rw [hoZ]; rfl) 0 _).set 1 rfl 1 _).set 1 rfl 2 _).set 1 rfl 3 _
    · intro l a w hI hs hr
      have hall := all_listed hr hs (by kernel_rfl)
      have q0 := hall 0 (by simp)
      have q1 := hall 1 (by simp)
      have q2 := hall 2 (by simp)
      have q3 := hall 3 (by simp)
      have q4 := hall 4 (by simp)
      have q5 := hall 5 (by simp)
      have q6 := hall 6 (by simp)
      have q7 := hall 7 (by simp)
      obtain ⟨vals, b4, b5, rfl, v0, v1, v2, v3, v4, v5, v6, v7, hH⟩ := hI
      simp only [q0, q1, q2, q3, q4, q5, q6, q7, if_true, if_false, List.nil_append, List.cons_append, List.append_assoc, Bool.false_eq_true, ↓reduceIte] at hH
      have v0 := v0 q0
      have v1 := v1 q1
      have v2 := v2 q2
      have v3 := v3 q3
      have v4 := v4 q4
      have v5 := v5 q5
      simp only [fillA, List.foldl_cons, List.foldl_nil, q0, q1, q2, q3, q4, q5, v0, v1, v2, v3, v4, v5, if_true]
      rw [← ha0]
      simp only [Act.put, List.setIfInBounds_toArray, List.set_cons_zero, List.set_cons_succ]
      clear q0 q1 q2 q3 q4 q5 q6 q7 v0 v1 v2 v3 v4 v5 v6 v7 x0 x1 x2 x3 y0 y1 y2 y3 I
      generalize hF2 : (b4, oA) :: (b5, oB) :: F = F2 at hH
      haveI : Nonempty (HpW W [] F2) := ⟨⟨_, hH⟩⟩
      have cx : ∀ x : HpW W [] F2, (x.w.cell? ⟨b4, 0, none⟩ = some (.int .u8 0) ∧ x.w.cell? ⟨b4, 1, none⟩ = some (.int .u64 (gM m)) ∧ x.w.cell? ⟨b4, 2, none⟩ = some (.int .i64 (gK k)) ∧ x.w.cell? ⟨b4, 3, none⟩ = some (.int .u64 (gV 0 m k u))) := fun x => cells4 (t := 42) (hoA ▸ x.h.blk (p := (b4, oA)) (by rw [← hF2]; simp))
      have cy : ∀ x : HpW W [] F2, (x.w.cell? ⟨b5, 0, none⟩ = some (.int .u8 0) ∧ x.w.cell? ⟨b5, 1, none⟩ = some (.int .u64 (gM m)) ∧ x.w.cell? ⟨b5, 2, none⟩ = some (.int .i64 (gK k)) ∧ x.w.cell? ⟨b5, 3, none⟩ = some (.int .u64 (gV 0 m k v))) := fun x => cells4 (t := 42) (hoB ▸ x.h.blk (p := (b5, oB)) (by rw [← hF2]; simp))
      have x0 := fun x => (cx x).1; have x1 := fun x => (cx x).2.1; have x2 := fun x => (cx x).2.2.1; have x3 := fun x => (cx x).2.2.2
      have y0 := fun x => (cy x).1; have y1 := fun x => (cy x).2.1; have y2 := fun x => (cy x).2.2.1; have y3 := fun x => (cy x).2.2.2
      clear cx cy
      have e3 := x3 ⟨_, hH⟩; have g3 := y3 ⟨_, hH⟩
      simp only at e3 g3
      by_cases hE : gV 0 m k v < gV 0 m k u
      · have d0 : decide (gV 0 m k v < gV 0 m k u) = true := by simpa using hE
        have o1 : decide ((cB 0 (gM m) (gK k) (gV 0 m k v)).length ≤ (cB 0 (gM m) (gK k) (gV 0 m k u)).length) = true := by simpa using cB_len_mono hw1 (Nat.le_of_lt hE)
        have e0 := x0 ⟨_, hH⟩; have e1 := x1 ⟨_, hH⟩; have e2 := x2 ⟨_, hH⟩; have g0 := y0 ⟨_, hH⟩; have g1 := y1 ⟨_, hH⟩; have g2 := y2 ⟨_, hH⟩
        simp only at e0 e1 e2 g0 g1 g2
        have fr4 : ∀ q, w.frozen? ⟨b4, q, none⟩ = false := fun q => free_of (hoA ▸ hH.blk (p := (b4, oA)) (by rw [← hF2]; simp))
        have fr5 : ∀ q, w.frozen? ⟨b5, q, none⟩ = false := fun q => free_of (hoB ▸ hH.blk (p := (b5, oB)) (by rw [← hF2]; simp))
        have i0 := fr4 0; have i1 := fr4 1; have i2 := fr4 2; have i3 := fr4 3; have j0 := fr5 0; have j1 := fr5 1; have j2 := fr5 2; have j3 := fr5 3
        have hne : b4 ≠ b5 := by
          have hn := hH
          rw [← hF2] at hn
          obtain ⟨_, _, _, _, hnd, _⟩ := hn
          simp only [List.map_cons, List.nodup_cons, List.mem_cons, not_or] at hnd
          exact hnd.1.1
        have hne' : b5 ≠ b4 := fun h => hne h.symm
        have hH3 : Hp W ((((((((w.setCell ⟨b4, 0, none⟩ (.int .u8 0)).setCell ⟨b4, 1, none⟩ (.int .u64 (gM m))).setCell ⟨b4, 2, none⟩ (.int .i64 (gK k))).setCell ⟨b4, 3, none⟩ (.int .u64 (gV 0 m k v))).setCell ⟨b5, 0, none⟩ (.int .u8 0)).setCell ⟨b5, 1, none⟩ (.int .u64 (gM m))).setCell ⟨b5, 2, none⟩ (.int .i64 (gK k))).setCell ⟨b5, 3, none⟩ (.int .u64 (gV 0 m k u))) [] ((b4, oB) :: (b5, oA) :: F) := by
          rw [← hF2] at hH
          have h8 := (((((((hH.set 0 (by rw [hoA]; rfl) 0 (.int .u8 0)).set 0 rfl 1 (.int .u64 (gM m))).set 0 rfl 2 (.int .i64 (gK k))).set 0 rfl 3 (.int .u64 (gV 0 m k v))).set 1 (by rw [hoB]; rfl) 0 (.int .u8 0)).set 1 rfl 1 (.int .u64 (gM m))).set 1 rfl 2 (.int .i64 (gK k))).set 1 rfl 3 (.int .u64 (gV 0 m k u))
          rw [hoA, hoB]; exact h8
        generalize hF3 : (b4, oB) :: (b5, oA) :: F = F3 at hH3
        haveI : Nonempty (HpW W [] F3) := ⟨⟨_, hH3⟩⟩
        have cx : ∀ x : HpW W [] F3, (x.w.cell? ⟨b4, 0, none⟩ = some (.int .u8 0) ∧ x.w.cell? ⟨b4, 1, none⟩ = some (.int .u64 (gM m)) ∧ x.w.cell? ⟨b4, 2, none⟩ = some (.int .i64 (gK k)) ∧ x.w.cell? ⟨b4, 3, none⟩ = some (.int .u64 (gV 0 m k v))) := fun x => cells4 (t := 42) (hoB ▸ x.h.blk (p := (b4, oB)) (by rw [← hF3]; simp))
        have cy : ∀ x : HpW W [] F3, (x.w.cell? ⟨b5, 0, none⟩ = some (.int .u8 0) ∧ x.w.cell? ⟨b5, 1, none⟩ = some (.int .u64 (gM m)) ∧ x.w.cell? ⟨b5, 2, none⟩ = some (.int .i64 (gK k)) ∧ x.w.cell? ⟨b5, 3, none⟩ = some (.int .u64 (gV 0 m k u))) := fun x => cells4 (t := 42) (hoA ▸ x.h.blk (p := (b5, oA)) (by rw [← hF3]; simp))
        have HH := Lib.hid hH3; have HF2 := Lib.hid hF2; have HF3 := Lib.hid hF3
        clear x0 x1 x2 x3 y0 y1 y2 y3 fr4 fr5 hH3 hF2 hF3 hE hH
        go_wp2_with (fail)
        clear e0 e1 e2 e3 g0 g1 g2 g3 i0 i1 i2 i3 j0 j1 j2 j3 d0
        have x0 := fun x => (cx x).1; have x1 := fun x => (cx x).2.1; have x2 := fun x => (cx x).2.2.1; have x3 := fun x => (cx x).2.2.2
        have y0 := fun x => (cy x).1; have y1 := fun x => (cy x).2.1; have y2 := fun x => (cy x).2.2.1; have y3 := fun x => (cy x).2.2.2
        clear cx cy
        refine wp_region_hp HH.out (by kernel_rfl) (by kernel_rfl) ?_
        repeat (go_big_quiet_step ((first | (go_at_call 34; exact HpW.call (code_any (HpW.h _) okA)) | (go_at_call 34; exact HpW.call (code_any (HpW.h _) okB)) | (go_at_call 11; exact HpW.call (gknown_any (HpW.h _))))))
        refine wpQuiet_nil ?_
        rintro _ ⟨⟨wq, hq⟩, rfl⟩
        go_wp2_with (fail)
        exact bodyPost_ret (results_tmp rfl _ _ _) rfl ⟨rfl, hq.below⟩
      · have d0 : decide (gV 0 m k v < gV 0 m k u) = false := by simpa using hE
        have o1 : decide ((cB 0 (gM m) (gK k) (gV 0 m k u)).length ≤ (cB 0 (gM m) (gK k) (gV 0 m k v)).length) = true := by simpa using cB_len_mono hw1 (Nat.le_of_not_lt hE)
        have HF2 := Lib.hid hF2; clear hF2 hE
        go_wp2_with (fail)
        clear e3 g3 d0
        refine wp_region_hp hH (by kernel_rfl) (by kernel_rfl) ?_
        repeat (go_big_quiet_step ((first | (go_at_call 34; exact HpW.call (code_any (HpW.h _) okA)) | (go_at_call 34; exact HpW.call (code_any (HpW.h _) okB)) | (go_at_call 11; exact HpW.call (gknown_any (HpW.h _))))))
        refine wpQuiet_nil ?_
        rintro _ ⟨⟨wq, hq⟩, rfl⟩
        go_wp2_with (fail)
        exact bodyPost_ret (results_tmp rfl _ _ _) rfl ⟨rfl, hq.below⟩
  · have dc : (wh % 4 == 1) = false := by simpa using c
    have hw1 : wh % 4 ≠ 1 := c
    clear c
    have okA := fit_ok h0 h9 m k u
    have okB := fit_ok h0 h9 m k v
    have H0 : Hp W ((W.alloc (.cells #[.int .u8 wh, .int .u64 m, .int .i64 k, .int .u64 u] 42 (0, 0))).alloc (.cells #[.int .u8 wh, .int .u64 m, .int .i64 k, .int .u64 v] 42 (0, 0))) [] [(W.heap.size + 1, .cells #[.int .u8 wh, .int .u64 m, .int .i64 k, .int .u64 v] 42 (0, 0)), (W.heap.size, .cells #[.int .u8 wh, .int .u64 m, .int .i64 k, .int .u64 u] 42 (0, 0))] := by
      have := ((Hp.start W).alloc (.cells #[.int .u8 wh, .int .u64 m, .int .i64 k, .int .u64 u] 42 (0, 0))).alloc (.cells #[.int .u8 wh, .int .u64 m, .int .i64 k, .int .u64 v] 42 (0, 0))
      simpa using this
    go_enter Try.func7, Try.ntmps7
    go_wp2_with (fail)
    generalize hF : ([(W.heap.size + 1, .cells #[.int .u8 wh, .int .u64 m, .int .i64 k, .int .u64 v] 42 (0, 0)), (W.heap.size, .cells #[.int .u8 wh, .int .u64 m, .int .i64 k, .int .u64 u] 42 (0, 0))] : List (Nat × Obj)) = F at H0
    generalize ((W.alloc (.cells #[.int .u8 wh, .int .u64 m, .int .i64 k, .int .u64 u] 42 (0, 0))).alloc (.cells #[.int .u8 wh, .int .u64 m, .int .i64 k, .int .u64 v] 42 (0, 0))) = w2 at *
    obtain ⟨oA, hoA⟩ : ∃ o : Obj, o = .cells #[.int .u8 wh, .int .u64 (gM m), .int .i64 (gK k), .int .u64 (gV wh m k u)] 42 (0, 0) := ⟨_, rfl⟩
    obtain ⟨oB, hoB⟩ : ∃ o : Obj, o = .cells #[.int .u8 wh, .int .u64 (gM m), .int .i64 (gK k), .int .u64 (gV wh m k v)] 42 (0, 0) := ⟨_, rfl⟩
    obtain ⟨oZ, hoZ⟩ : ∃ o : Obj, o = .cells #[.int .u8 0, .int .u64 0, .int .i64 0, .int .u64 0] 42 (0, 0) := ⟨_, rfl⟩
    generalize ha0 : Act.mk _ _ = a0
    haveI : Nonempty (HpW W [] F) := ⟨⟨_, H0⟩⟩
    have cx : ∀ x : HpW W [] F, (x.w.cell? ⟨W.heap.size, 0, none⟩ = some (.int .u8 wh) ∧ x.w.cell? ⟨W.heap.size, 1, none⟩ = some (.int .u64 m) ∧ x.w.cell? ⟨W.heap.size, 2, none⟩ = some (.int .i64 k) ∧ x.w.cell? ⟨W.heap.size, 3, none⟩ = some (.int .u64 u)) := fun x => cells4 (t := 42) (x.h.blk (p := (W.heap.size, _)) (by rw [← hF]; simp))
    have cy : ∀ x : HpW W [] F, (x.w.cell? ⟨W.heap.size + 1, 0, none⟩ = some (.int .u8 wh) ∧ x.w.cell? ⟨W.heap.size + 1, 1, none⟩ = some (.int .u64 m) ∧ x.w.cell? ⟨W.heap.size + 1, 2, none⟩ = some (.int .i64 k) ∧ x.w.cell? ⟨W.heap.size + 1, 3, none⟩ = some (.int .u64 v)) := fun x => cells4 (t := 42) (x.h.blk (p := (W.heap.size + 1, _)) (by rw [← hF]; simp))
    have x0 := fun x => (cx x).1; have x1 := fun x => (cx x).2.1; have x2 := fun x => (cx x).2.2.1; have x3 := fun x => (cx x).2.2.2
    have y0 := fun x => (cy x).1; have y1 := fun x => (cy x).2.1; have y2 := fun x => (cy x).2.2.1; have y3 := fun x => (cy x).2.2.2
    clear cx cy
    have HF := Lib.hid hF; clear hF
    have hsz : a0.tmps.size = 37 := by rw [← ha0]; rfl
    let I : Array Bool → Act → World → Prop := fun l a w => ∃ (vals : Nat → Value) (b4 : Nat) (b5 : Nat), a = fillA [(0, 16), (1, 17), (2, 18), (3, 19), (4, 6), (5, 7)] vals l a0 ∧ (l.getD 0 false = true → vals 0 = .agg #[.int .u8 wh, .int .u64 m, .int .i64 k, .int .u64 u]) ∧ (l.getD 1 false = true → vals 1 = .agg #[.int .u8 wh, .int .u64 (gM m), .int .i64 (gK k), .int .u64 (gV wh m k u)]) ∧ (l.getD 2 false = true → vals 2 = .agg #[.int .u8 wh, .int .u64 m, .int .i64 k, .int .u64 v]) ∧ (l.getD 3 false = true → vals 3 = .agg #[.int .u8 wh, .int .u64 (gM m), .int .i64 (gK k), .int .u64 (gV wh m k v)]) ∧ (l.getD 4 false = true → vals 4 = .pointer (some ⟨b4, 0, none⟩)) ∧ (l.getD 5 false = true → vals 5 = .pointer (some ⟨b5, 0, none⟩)) ∧ (l.getD 6 false = true → l.getD 4 false = true) ∧ (l.getD 7 false = true → l.getD 5 false = true) ∧ Hp W w [] ((if l.getD 4 false = true then [(b4, if l.getD 6 false = true then oA else oZ)] else []) ++ (if l.getD 5 false = true then [(b5, if l.getD 7 false = true then oB else oZ)] else []) ++ F)
    refine wp_region_inv I (by kernel_rfl) ?_ ?_ ?_
    · exact ⟨fun _ => undef, 0, 0, by simp [fillA], by simp, by simp, by simp, by simp, by simp, by simp, by simp, by simp, by simpa using H0.drew⟩
    · intro l a w i hI hs hi
      obtain ⟨vals, b4, b5, rfl, v0, v1, v2, v3, v4, v5, v6, v7, hH⟩ := hI
      obtain ⟨hu1, hu2⟩ := ready_unlisted hs hi
      have hZ : Hp W w [] F := by
        by_cases c4 : l.getD 4 false = true <;> by_cases c5 : l.getD 5 false = true <;> simp only [c4, c5, if_true, if_false, List.nil_append, List.cons_append, List.append_assoc, Bool.false_eq_true, ↓reduceIte] at hH <;> first | exact hH | exact hH.drop | exact hH.drop.drop | exact hH.drop.drop.drop
      have hi8 := (ready_false hs hi).1
      have hi8' : i = 0 ∨ i = 1 ∨ i = 2 ∨ i = 3 ∨ i = 4 ∨ i = 5 ∨ i = 6 ∨ i = 7 := by simp at hi8; omega
      rcases hi8' with rfl | rfl | rfl | rfl | rfl | rfl | rfl | rfl
      · refine wpOp_of rfl rfl ?_
        have hput := fun v => fillA_put (vals := vals) (a := a0) v (show (0, 16) ∈ [(0, 16), (1, 17), (2, 18), (3, 19), (4, 6), (5, 7)] by simp) (by decide) (by decide) hu1 hu2
        have eb : (fillA [(0, 16), (1, 17), (2, 18), (3, 19), (4, 6), (5, 7)] vals l a0).tmps[2]?.getD undef = .pointer (some ⟨W.heap.size, 0, none⟩) := by rw [fillA_get_out (by simp), ← ha0]; rfl
        have k0 := x0 ⟨w, hZ⟩
        have k1 := x1 ⟨w, hZ⟩
        have k2 := x2 ⟨w, hZ⟩
        have k3 := x3 ⟨w, hZ⟩
        simp only at k0 k1 k2 k3
        generalize hA : fillA [(0, 16), (1, 17), (2, 18), (3, 19), (4, 6), (5, 7)] vals l a0 = A at *
        go_simp
        refine ⟨updV vals 0 _, b4, b5, hput _, ?_, ?_, ?_, ?_, ?_, ?_, ?_, ?_, ?_⟩
        all_goals first | (intro _; rfl) | (simp (discharger := decide) only [getD_set_ne, updV_ne]; assumption) | (simp (discharger := decide) only [getD_set_ne]; assumption)
      · refine wpOp_of rfl rfl ?_
        have d0 := ready_deps hi (o := _) rfl ⟨0, .data⟩ (by simp) rfl
        have hput := fun v => fillA_put (vals := vals) (a := a0) v (show (1, 17) ∈ [(0, 16), (1, 17), (2, 18), (3, 19), (4, 6), (5, 7)] by simp) (by decide) (by decide) hu1 hu2
        have e16 := (fillA_get_in (vals := vals) (a := a0) (show (0, 16) ∈ [(0, 16), (1, 17), (2, 18), (3, 19), (4, 6), (5, 7)] by simp) (by decide) (by rw [hsz]; decide) d0).trans (v0 d0)
        generalize hA : fillA [(0, 16), (1, 17), (2, 18), (3, 19), (4, 6), (5, 7)] vals l a0 = A at *
        go_simp
        refine (gfit_hp hH wh m k u h0 h9 hm h1 h2 hu).mono ?_
        rintro e w1 ⟨rfl, hH1⟩
        refine ⟨updV vals 1 _, b4, b5, hput _, ?_, ?_, ?_, ?_, ?_, ?_, ?_, ?_, ?_⟩
        all_goals first | (intro _; rfl) | (simp (discharger := decide) only [getD_set_ne, updV_ne]; assumption) | (simp (discharger := decide) only [getD_set_ne]; assumption)
      · refine wpOp_of rfl rfl ?_
        have hput := fun v => fillA_put (vals := vals) (a := a0) v (show (2, 18) ∈ [(0, 16), (1, 17), (2, 18), (3, 19), (4, 6), (5, 7)] by simp) (by decide) (by decide) hu1 hu2
        have eb : (fillA [(0, 16), (1, 17), (2, 18), (3, 19), (4, 6), (5, 7)] vals l a0).tmps[5]?.getD undef = .pointer (some ⟨W.heap.size + 1, 0, none⟩) := by rw [fillA_get_out (by simp), ← ha0]; rfl
        have k0 := y0 ⟨w, hZ⟩
        have k1 := y1 ⟨w, hZ⟩
        have k2 := y2 ⟨w, hZ⟩
        have k3 := y3 ⟨w, hZ⟩
        simp only at k0 k1 k2 k3
        generalize hA : fillA [(0, 16), (1, 17), (2, 18), (3, 19), (4, 6), (5, 7)] vals l a0 = A at *
        go_simp
        refine ⟨updV vals 2 _, b4, b5, hput _, ?_, ?_, ?_, ?_, ?_, ?_, ?_, ?_, ?_⟩
        all_goals first | (intro _; rfl) | (simp (discharger := decide) only [getD_set_ne, updV_ne]; assumption) | (simp (discharger := decide) only [getD_set_ne]; assumption)
      · refine wpOp_of rfl rfl ?_
        have d2 := ready_deps hi (o := _) rfl ⟨2, .data⟩ (by simp) rfl
        have hput := fun v => fillA_put (vals := vals) (a := a0) v (show (3, 19) ∈ [(0, 16), (1, 17), (2, 18), (3, 19), (4, 6), (5, 7)] by simp) (by decide) (by decide) hu1 hu2
        have e18 := (fillA_get_in (vals := vals) (a := a0) (show (2, 18) ∈ [(0, 16), (1, 17), (2, 18), (3, 19), (4, 6), (5, 7)] by simp) (by decide) (by rw [hsz]; decide) d2).trans (v2 d2)
        generalize hA : fillA [(0, 16), (1, 17), (2, 18), (3, 19), (4, 6), (5, 7)] vals l a0 = A at *
        go_simp
        refine (gfit_hp hH wh m k v h0 h9 hm h1 h2 hv).mono ?_
        rintro e w1 ⟨rfl, hH1⟩
        refine ⟨updV vals 3 _, b4, b5, hput _, ?_, ?_, ?_, ?_, ?_, ?_, ?_, ?_, ?_⟩
        all_goals first | (intro _; rfl) | (simp (discharger := decide) only [getD_set_ne, updV_ne]; assumption) | (simp (discharger := decide) only [getD_set_ne]; assumption)
      · refine wpOp_of rfl rfl ?_
        have hput := fun v => fillA_put (vals := vals) (a := a0) v (show (4, 6) ∈ [(0, 16), (1, 17), (2, 18), (3, 19), (4, 6), (5, 7)] by simp) (by decide) (by decide) hu1 hu2
        generalize hA : fillA [(0, 16), (1, 17), (2, 18), (3, 19), (4, 6), (5, 7)] vals l a0 = A at *
        go_simp
        have hst : l.getD 6 false = false := by cases hc : l.getD 6 false with | false => rfl | true => (have := v6 hc; rw [hu2] at this; cases this)
        refine ⟨updV vals 4 _, w.heap.size, b5, hput _, ?_, ?_, ?_, ?_, ?_, ?_, ?_, ?_, ?_⟩
        all_goals first | (intro _; rfl) | (intro _; exact getD_set_self hu1) | (simp (discharger := decide) only [getD_set_ne, updV_ne]; assumption) | (simp (discharger := decide) only [getD_set_ne]; assumption) | skip
        rw [hu2] at hH
        simp (discharger := decide) only [getD_set_self hu1, getD_set_ne, hst, if_true, if_false, List.nil_append, List.cons_append, List.append_assoc, Bool.false_eq_true, ↓reduceIte] at hH ⊢
        refine Hp.perm (hH.alloc _) ?_
        rw [← hoZ]
        all_goals (exact List.Perm.refl _)
      · refine wpOp_of rfl rfl ?_
        have hput := fun v => fillA_put (vals := vals) (a := a0) v (show (5, 7) ∈ [(0, 16), (1, 17), (2, 18), (3, 19), (4, 6), (5, 7)] by simp) (by decide) (by decide) hu1 hu2
        generalize hA : fillA [(0, 16), (1, 17), (2, 18), (3, 19), (4, 6), (5, 7)] vals l a0 = A at *
        go_simp
        have hst : l.getD 7 false = false := by cases hc : l.getD 7 false with | false => rfl | true => (have := v7 hc; rw [hu2] at this; cases this)
        refine ⟨updV vals 5 _, b4, w.heap.size, hput _, ?_, ?_, ?_, ?_, ?_, ?_, ?_, ?_, ?_⟩
        all_goals first | (intro _; rfl) | (intro _; exact getD_set_self hu1) | (simp (discharger := decide) only [getD_set_ne, updV_ne]; assumption) | (simp (discharger := decide) only [getD_set_ne]; assumption) | skip
        rw [hu2] at hH
        simp (discharger := decide) only [getD_set_self hu1, getD_set_ne, hst, if_true, if_false, List.nil_append, List.cons_append, List.append_assoc, Bool.false_eq_true, ↓reduceIte] at hH ⊢
        refine Hp.perm (hH.alloc _) ?_
        rw [← hoZ]
        all_goals (cases l.getD 4 false <;> simp only [Bool.false_eq_true, ↓reduceIte, List.nil_append, List.cons_append] <;> first | exact List.Perm.refl _ | exact List.Perm.swap _ _ _)
      · refine wpOp_of rfl rfl ?_
        have d4 := ready_deps hi (o := _) rfl ⟨4, .data⟩ (by simp) rfl
        have d1 := ready_deps hi (o := _) rfl ⟨1, .data⟩ (by simp) rfl
        have hput : RowKit.Hid (fillA [(0, 16), (1, 17), (2, 18), (3, 19), (4, 6), (5, 7)] vals l a0 = fillA [(0, 16), (1, 17), (2, 18), (3, 19), (4, 6), (5, 7)] vals (l.setIfInBounds 6 true) a0) := Lib.hid <| fillA_congr a0 (fun x hx => ⟨(getD_set_ne (by simp only [List.mem_cons, List.not_mem_nil, or_false] at hx; rcases hx with rfl | rfl | rfl | rfl | rfl | rfl <;> decide)).symm, fun _ => rfl⟩)
        have e6 := (fillA_get_in (vals := vals) (a := a0) (show (4, 6) ∈ [(0, 16), (1, 17), (2, 18), (3, 19), (4, 6), (5, 7)] by simp) (by decide) (by rw [hsz]; decide) d4).trans (v4 d4)
        have e17 := (fillA_get_in (vals := vals) (a := a0) (show (1, 17) ∈ [(0, 16), (1, 17), (2, 18), (3, 19), (4, 6), (5, 7)] by simp) (by decide) (by rw [hsz]; decide) d1).trans (v1 d1)
        have d5 := ready_deps hi (o := _) rfl ⟨5, .phase⟩ (by simp) rfl
        rw [d4, d5, hu2] at hH
        simp only [if_true, if_false, List.nil_append, List.cons_append, List.append_assoc, Bool.false_eq_true, ↓reduceIte] at hH
        have hb := hH.blk (p := (b4, oZ)) (by simp)
        rw [hoZ] at hb
        obtain ⟨c0, c1, c2, c3⟩ := cells4 hb
        have fr : ∀ q, w.frozen? ⟨b4, q, none⟩ = false := fun q => free_of hb
        have f0 := fr 0; have f1 := fr 1; have f2 := fr 2; have f3 := fr 3
        generalize hA : fillA [(0, 16), (1, 17), (2, 18), (3, 19), (4, 6), (5, 7)] vals l a0 = A at *
        go_simp
        refine ⟨vals, b4, b5, hput.out, ?_, ?_, ?_, ?_, ?_, ?_, ?_, ?_, ?_⟩
        all_goals first | (simp (discharger := decide) only [getD_set_ne]; assumption) | (intro _; simp (discharger := decide) only [getD_set_ne]; assumption) | skip
        simp (discharger := decide) only [getD_set_self hu1, getD_set_ne, d4, d5, if_true, if_false, List.nil_append, List.cons_append, List.append_assoc, Bool.false_eq_true, ↓reduceIte]
        rw [hoA]
        exact (((hH.set 0 (by rw [hoZ]; rfl) 0 _).set 0 rfl 1 _).set 0 rfl 2 _).set 0 rfl 3 _
      · refine wpOp_of rfl rfl ?_
        have d5 := ready_deps hi (o := _) rfl ⟨5, .data⟩ (by simp) rfl
        have d3 := ready_deps hi (o := _) rfl ⟨3, .data⟩ (by simp) rfl
        have hput : RowKit.Hid (fillA [(0, 16), (1, 17), (2, 18), (3, 19), (4, 6), (5, 7)] vals l a0 = fillA [(0, 16), (1, 17), (2, 18), (3, 19), (4, 6), (5, 7)] vals (l.setIfInBounds 7 true) a0) := Lib.hid <| fillA_congr a0 (fun x hx => ⟨(getD_set_ne (by simp only [List.mem_cons, List.not_mem_nil, or_false] at hx; rcases hx with rfl | rfl | rfl | rfl | rfl | rfl <;> decide)).symm, fun _ => rfl⟩)
        have e7 := (fillA_get_in (vals := vals) (a := a0) (show (5, 7) ∈ [(0, 16), (1, 17), (2, 18), (3, 19), (4, 6), (5, 7)] by simp) (by decide) (by rw [hsz]; decide) d5).trans (v5 d5)
        have e19 := (fillA_get_in (vals := vals) (a := a0) (show (3, 19) ∈ [(0, 16), (1, 17), (2, 18), (3, 19), (4, 6), (5, 7)] by simp) (by decide) (by rw [hsz]; decide) d3).trans (v3 d3)
        have d4 := ready_deps hi (o := _) rfl ⟨4, .phase⟩ (by simp) rfl
        rw [d4, d5, hu2] at hH
        simp only [if_true, if_false, List.nil_append, List.cons_append, List.append_assoc, Bool.false_eq_true, ↓reduceIte] at hH
        have hb := hH.blk (p := (b5, oZ)) (by simp)
        rw [hoZ] at hb
        obtain ⟨c0, c1, c2, c3⟩ := cells4 hb
        have fr : ∀ q, w.frozen? ⟨b5, q, none⟩ = false := fun q => free_of hb
        have f0 := fr 0; have f1 := fr 1; have f2 := fr 2; have f3 := fr 3
        generalize hA : fillA [(0, 16), (1, 17), (2, 18), (3, 19), (4, 6), (5, 7)] vals l a0 = A at *
        go_simp
        refine ⟨vals, b4, b5, hput.out, ?_, ?_, ?_, ?_, ?_, ?_, ?_, ?_, ?_⟩
        all_goals first | (simp (discharger := decide) only [getD_set_ne]; assumption) | (intro _; simp (discharger := decide) only [getD_set_ne]; assumption) | skip
        simp (discharger := decide) only [getD_set_self hu1, getD_set_ne, d4, d5, if_true, if_false, List.nil_append, List.cons_append, List.append_assoc, Bool.false_eq_true, ↓reduceIte]
        rw [hoB]
        exact (((hH.set 1 (by rw [hoZ]; rfl) 0 _).set 1 rfl 1 _).set 1 rfl 2 _).set 1 rfl 3 _
    · intro l a w hI hs hr
      have hall := all_listed hr hs (by kernel_rfl)
      have q0 := hall 0 (by simp)
      have q1 := hall 1 (by simp)
      have q2 := hall 2 (by simp)
      have q3 := hall 3 (by simp)
      have q4 := hall 4 (by simp)
      have q5 := hall 5 (by simp)
      have q6 := hall 6 (by simp)
      have q7 := hall 7 (by simp)
      obtain ⟨vals, b4, b5, rfl, v0, v1, v2, v3, v4, v5, v6, v7, hH⟩ := hI
      simp only [q0, q1, q2, q3, q4, q5, q6, q7, if_true, if_false, List.nil_append, List.cons_append, List.append_assoc, Bool.false_eq_true, ↓reduceIte] at hH
      have v0 := v0 q0
      have v1 := v1 q1
      have v2 := v2 q2
      have v3 := v3 q3
      have v4 := v4 q4
      have v5 := v5 q5
      simp only [fillA, List.foldl_cons, List.foldl_nil, q0, q1, q2, q3, q4, q5, v0, v1, v2, v3, v4, v5, if_true]
      rw [← ha0]
      simp only [Act.put, List.setIfInBounds_toArray, List.set_cons_zero, List.set_cons_succ]
      clear q0 q1 q2 q3 q4 q5 q6 q7 v0 v1 v2 v3 v4 v5 v6 v7 x0 x1 x2 x3 y0 y1 y2 y3 I
      generalize hF2 : (b4, oA) :: (b5, oB) :: F = F2 at hH
      haveI : Nonempty (HpW W [] F2) := ⟨⟨_, hH⟩⟩
      have cx : ∀ x : HpW W [] F2, (x.w.cell? ⟨b4, 0, none⟩ = some (.int .u8 wh) ∧ x.w.cell? ⟨b4, 1, none⟩ = some (.int .u64 (gM m)) ∧ x.w.cell? ⟨b4, 2, none⟩ = some (.int .i64 (gK k)) ∧ x.w.cell? ⟨b4, 3, none⟩ = some (.int .u64 (gV wh m k u))) := fun x => cells4 (t := 42) (hoA ▸ x.h.blk (p := (b4, oA)) (by rw [← hF2]; simp))
      have cy : ∀ x : HpW W [] F2, (x.w.cell? ⟨b5, 0, none⟩ = some (.int .u8 wh) ∧ x.w.cell? ⟨b5, 1, none⟩ = some (.int .u64 (gM m)) ∧ x.w.cell? ⟨b5, 2, none⟩ = some (.int .i64 (gK k)) ∧ x.w.cell? ⟨b5, 3, none⟩ = some (.int .u64 (gV wh m k v))) := fun x => cells4 (t := 42) (hoB ▸ x.h.blk (p := (b5, oB)) (by rw [← hF2]; simp))
      have x0 := fun x => (cx x).1; have x1 := fun x => (cx x).2.1; have x2 := fun x => (cx x).2.2.1; have x3 := fun x => (cx x).2.2.2
      have y0 := fun x => (cy x).1; have y1 := fun x => (cy x).2.1; have y2 := fun x => (cy x).2.2.1; have y3 := fun x => (cy x).2.2.2
      clear cx cy
      have e3 := x3 ⟨_, hH⟩; have g3 := y3 ⟨_, hH⟩
      simp only at e3 g3
      by_cases hE : gV wh m k v < gV wh m k u
      · have d0 : decide (gV wh m k v < gV wh m k u) = true := by simpa using hE
        have o1 : decide ((cB wh (gM m) (gK k) (gV wh m k v)).length ≤ (cB wh (gM m) (gK k) (gV wh m k u)).length) = true := by simpa using cB_len_mono hw1 (Nat.le_of_lt hE)
        have e0 := x0 ⟨_, hH⟩; have e1 := x1 ⟨_, hH⟩; have e2 := x2 ⟨_, hH⟩; have g0 := y0 ⟨_, hH⟩; have g1 := y1 ⟨_, hH⟩; have g2 := y2 ⟨_, hH⟩
        simp only at e0 e1 e2 g0 g1 g2
        have fr4 : ∀ q, w.frozen? ⟨b4, q, none⟩ = false := fun q => free_of (hoA ▸ hH.blk (p := (b4, oA)) (by rw [← hF2]; simp))
        have fr5 : ∀ q, w.frozen? ⟨b5, q, none⟩ = false := fun q => free_of (hoB ▸ hH.blk (p := (b5, oB)) (by rw [← hF2]; simp))
        have i0 := fr4 0; have i1 := fr4 1; have i2 := fr4 2; have i3 := fr4 3; have j0 := fr5 0; have j1 := fr5 1; have j2 := fr5 2; have j3 := fr5 3
        have hne : b4 ≠ b5 := by
          have hn := hH
          rw [← hF2] at hn
          obtain ⟨_, _, _, _, hnd, _⟩ := hn
          simp only [List.map_cons, List.nodup_cons, List.mem_cons, not_or] at hnd
          exact hnd.1.1
        have hne' : b5 ≠ b4 := fun h => hne h.symm
        have hH3 : Hp W ((((((((w.setCell ⟨b4, 0, none⟩ (.int .u8 wh)).setCell ⟨b4, 1, none⟩ (.int .u64 (gM m))).setCell ⟨b4, 2, none⟩ (.int .i64 (gK k))).setCell ⟨b4, 3, none⟩ (.int .u64 (gV wh m k v))).setCell ⟨b5, 0, none⟩ (.int .u8 wh)).setCell ⟨b5, 1, none⟩ (.int .u64 (gM m))).setCell ⟨b5, 2, none⟩ (.int .i64 (gK k))).setCell ⟨b5, 3, none⟩ (.int .u64 (gV wh m k u))) [] ((b4, oB) :: (b5, oA) :: F) := by
          rw [← hF2] at hH
          have h8 := (((((((hH.set 0 (by rw [hoA]; rfl) 0 (.int .u8 wh)).set 0 rfl 1 (.int .u64 (gM m))).set 0 rfl 2 (.int .i64 (gK k))).set 0 rfl 3 (.int .u64 (gV wh m k v))).set 1 (by rw [hoB]; rfl) 0 (.int .u8 wh)).set 1 rfl 1 (.int .u64 (gM m))).set 1 rfl 2 (.int .i64 (gK k))).set 1 rfl 3 (.int .u64 (gV wh m k u))
          rw [hoA, hoB]; exact h8
        generalize hF3 : (b4, oB) :: (b5, oA) :: F = F3 at hH3
        haveI : Nonempty (HpW W [] F3) := ⟨⟨_, hH3⟩⟩
        have cx : ∀ x : HpW W [] F3, (x.w.cell? ⟨b4, 0, none⟩ = some (.int .u8 wh) ∧ x.w.cell? ⟨b4, 1, none⟩ = some (.int .u64 (gM m)) ∧ x.w.cell? ⟨b4, 2, none⟩ = some (.int .i64 (gK k)) ∧ x.w.cell? ⟨b4, 3, none⟩ = some (.int .u64 (gV wh m k v))) := fun x => cells4 (t := 42) (hoB ▸ x.h.blk (p := (b4, oB)) (by rw [← hF3]; simp))
        have cy : ∀ x : HpW W [] F3, (x.w.cell? ⟨b5, 0, none⟩ = some (.int .u8 wh) ∧ x.w.cell? ⟨b5, 1, none⟩ = some (.int .u64 (gM m)) ∧ x.w.cell? ⟨b5, 2, none⟩ = some (.int .i64 (gK k)) ∧ x.w.cell? ⟨b5, 3, none⟩ = some (.int .u64 (gV wh m k u))) := fun x => cells4 (t := 42) (hoA ▸ x.h.blk (p := (b5, oA)) (by rw [← hF3]; simp))
        have HH := Lib.hid hH3; have HF2 := Lib.hid hF2; have HF3 := Lib.hid hF3
        clear x0 x1 x2 x3 y0 y1 y2 y3 fr4 fr5 hH3 hF2 hF3 hE hH
        go_wp2_with (fail)
        clear e0 e1 e2 e3 g0 g1 g2 g3 i0 i1 i2 i3 j0 j1 j2 j3 d0
        have x0 := fun x => (cx x).1; have x1 := fun x => (cx x).2.1; have x2 := fun x => (cx x).2.2.1; have x3 := fun x => (cx x).2.2.2
        have y0 := fun x => (cy x).1; have y1 := fun x => (cy x).2.1; have y2 := fun x => (cy x).2.2.1; have y3 := fun x => (cy x).2.2.2
        clear cx cy
        refine wp_region_hp HH.out (by kernel_rfl) (by kernel_rfl) ?_
        repeat (go_big_quiet_step ((first | (go_at_call 34; exact HpW.call (code_any (HpW.h _) okA)) | (go_at_call 34; exact HpW.call (code_any (HpW.h _) okB)) | (go_at_call 11; exact HpW.call (gknown_any (HpW.h _))))))
        refine wpQuiet_nil ?_
        rintro _ ⟨⟨wq, hq⟩, rfl⟩
        go_wp2_with (fail)
        exact bodyPost_ret (results_tmp rfl _ _ _) rfl ⟨rfl, hq.below⟩
      · have d0 : decide (gV wh m k v < gV wh m k u) = false := by simpa using hE
        have o1 : decide ((cB wh (gM m) (gK k) (gV wh m k u)).length ≤ (cB wh (gM m) (gK k) (gV wh m k v)).length) = true := by simpa using cB_len_mono hw1 (Nat.le_of_not_lt hE)
        have HF2 := Lib.hid hF2; clear hF2 hE
        go_wp2_with (fail)
        clear e3 g3 d0
        refine wp_region_hp hH (by kernel_rfl) (by kernel_rfl) ?_
        repeat (go_big_quiet_step ((first | (go_at_call 34; exact HpW.call (code_any (HpW.h _) okA)) | (go_at_call 34; exact HpW.call (code_any (HpW.h _) okB)) | (go_at_call 11; exact HpW.call (gknown_any (HpW.h _))))))
        refine wpQuiet_nil ?_
        rintro _ ⟨⟨wq, hq⟩, rfl⟩
        go_wp2_with (fail)
        exact bodyPost_ret (results_tmp rfl _ _ _) rfl ⟨rfl, hq.below⟩

end Go.Proofs.Ytlmkabpdgemndaa
