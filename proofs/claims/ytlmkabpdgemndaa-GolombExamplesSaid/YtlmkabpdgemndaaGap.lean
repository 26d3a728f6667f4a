/- The law GolombApart: codes of different numbers. -/
import Derived.Test.YtlmkabpdgemndaaGk
import Derived.Test.YtlmkabpdgemndaaReg
namespace Go.Proofs.Ytlmkabpdgemndaa
open Go.RowKit
set_option linter.unusedVariables false
set_option maxRecDepth 100000
set_option linter.unusedSimpArgs false

theorem seg_of_prefix {C B : List Bool} (h : C <+: B) : seg (sbits (pstr B)) 0 C.length = C ∧ 0 + C.length ≤ 8 * (pstr B).size := by
  obtain ⟨R, rfl⟩ := h
  constructor
  · rw [sbits_pstr]
    simp [seg]
  · rw [pstr_size, List.length_append]; omega

theorem cB_prefix {wh : Int} {m k a b : Nat} (ha : CallOk wh m k a) (hb : CallOk wh m k b) (h : cB wh m k a <+: cB wh m k b) : a = b := by
  have h4 : wh % 4 = 0 ∨ wh % 4 = 1 ∨ wh % 4 = 2 ∨ wh % 4 = 3 := by have := ha.w0; omega
  obtain ⟨s1, l1⟩ := seg_of_prefix h
  obtain ⟨s2, l2⟩ := seg_of_prefix (List.prefix_refl (cB wh m k b))
  generalize pstr (cB wh m k b) = s at *
  rcases h4 with c | c | c | c
  · have e : ∀ v, cB wh m k v = ueB v := fun v => if_pos c
    rw [e] at s1 l1 s2 l2
    exact (ue_back' (ha.v01 (by omega)) l1 s1).2.1.symm.trans (ue_back' (hb.v01 (by omega)) l2 s2).2.1
  · have e : ∀ v : Nat, cB wh m k v = ueB (seN ((v : Int) - 2147483647)) := fun v => by unfold cB; rw [if_neg (by omega), if_pos c]
    rw [e] at s1 l1 s2 l2
    have ga := ha.v01 (by omega)
    have gb := hb.v01 (by omega)
    have h1 := se_back (ue_back' (seN_le (v := (a : Int) - 2147483647) (by omega) (by omega)) l1 s1).2.1
    have h2 := se_back (ue_back' (seN_le (v := (b : Int) - 2147483647) (by omega) (by omega)) l2 s2).2.1
    omega
  · have e : ∀ v : Nat, cB wh m k v = teB m v := fun v => by unfold cB; rw [if_neg (by omega), if_neg (by omega), if_pos c]
    rw [e] at s1 l1 s2 l2
    exact (te_back ha.m1 (ha.v2 c) l1 s1).2.1.symm.trans (te_back hb.m1 (hb.v2 c) l2 s2).2.1
  · have e : ∀ v : Nat, cB wh m k v = ukB k v := fun v => by unfold cB; rw [if_neg (by omega), if_neg (by omega), if_neg (by omega)]
    rw [e] at s1 l1 s2 l2
    exact (uk_back ha.k1 (ha.v3 c) l1 s1).2.1.symm.trans (uk_back hb.k1 (hb.v3 c) l2 s2).2.1

theorem strB_inj {s t : List Bool} : (strB s = strB t) ↔ s = t := by
  constructor
  · intro h
    have h1 : (strB s).data.toList = (strB t).data.toList := by rw [h]
    have h2 : s.map chB = t.map chB := h1
    exact (List.map_inj_right (by intro x y; cases x <;> cases y <;> simp [chB])).1 h2
  · intro h; rw [h]

theorem gfit_hp {W w : World} {L : List AObj} {F : List (Nat × Obj)} (h : Hp W w L F) (wh : Int) (m : Nat) (k : Int) (v : Nat) (h0 : 0 ≤ wh) (h9 : wh ≤ 255) (hm : m < 18446744073709551616) (h1 : -9223372036854775808 ≤ k) (h2 : k ≤ 9223372036854775807) (hv : v < 18446744073709551616) :
    Calls Try.prog 33 #[.agg #[.int .u8 wh, .int .u64 m, .int .i64 k, .int .u64 v]] w fun e w' => e = .returned (.agg #[.int .u8 wh, .int .u64 (gM m), .int .i64 (gK k), .int .u64 (gV wh m k v)]) ∧ Hp W w' L F :=
  (gfit_any wh m k v h0 h9 hm h1 h2 hv w).mono fun e w' ⟨he, hb⟩ => ⟨he, h.same hb⟩

set_option maxRecDepth 100000 in
set_option maxHeartbeats 1000000 in
theorem apart_walk (wh : Int) (m : Nat) (k : Int) (u v : Nat) (h0 : 0 ≤ wh) (h9 : wh ≤ 255) (hm : m < 18446744073709551616) (h1 : -9223372036854775808 ≤ k) (h2 : k ≤ 9223372036854775807) (hu : u < 18446744073709551616) (hv : v < 18446744073709551616) (W : World) :
    Calls Try.prog 5 #[.agg #[.int .u8 wh, .int .u64 m, .int .i64 k, .int .u64 u], .int .u64 v] W fun e w' => e = .returned (.bool true) ∧ Below W.heap.size W w' := by
  have okA := fit_ok h0 h9 m k u
  have okB := fit_ok h0 h9 m k v
  have g1 : ((W.alloc (.cells #[.int .u8 wh, .int .u64 m, .int .i64 k, .int .u64 u] 42 (0, 0))).alloc (.cells #[.int .u8 wh, .int .u64 m, .int .i64 k, .int .u64 v] 42 (0, 0))).heap.size = W.heap.size + 2 := by simp
  have H0 : Hp W ((W.alloc (.cells #[.int .u8 wh, .int .u64 m, .int .i64 k, .int .u64 u] 42 (0, 0))).alloc (.cells #[.int .u8 wh, .int .u64 m, .int .i64 k, .int .u64 v] 42 (0, 0))) []
      [(W.heap.size + 1, .cells #[.int .u8 wh, .int .u64 m, .int .i64 k, .int .u64 v] 42 (0, 0)), (W.heap.size, .cells #[.int .u8 wh, .int .u64 m, .int .i64 k, .int .u64 u] 42 (0, 0))] := by
    have := ((Hp.start W).alloc (.cells #[.int .u8 wh, .int .u64 m, .int .i64 k, .int .u64 u] 42 (0, 0))).alloc (.cells #[.int .u8 wh, .int .u64 m, .int .i64 k, .int .u64 v] 42 (0, 0))
    simpa using this
  go_enter Try.func5, Try.ntmps5
  go_wp2_with (fail)
  generalize hF : ([(W.heap.size + 1, .cells #[.int .u8 wh, .int .u64 m, .int .i64 k, .int .u64 v] 42 (0, 0)), (W.heap.size, .cells #[.int .u8 wh, .int .u64 m, .int .i64 k, .int .u64 u] 42 (0, 0))] : List (Nat × Obj)) = F at H0
  generalize ((W.alloc (.cells #[.int .u8 wh, .int .u64 m, .int .i64 k, .int .u64 u] 42 (0, 0))).alloc (.cells #[.int .u8 wh, .int .u64 m, .int .i64 k, .int .u64 v] 42 (0, 0))) = w2 at *
  obtain ⟨oA, hoA⟩ : ∃ o : Obj, o = .cells #[.int .u8 wh, .int .u64 (gM m), .int .i64 (gK k), .int .u64 (gV wh m k u)] 42 (0, 0) := ⟨_, rfl⟩
  obtain ⟨oB, hoB⟩ : ∃ o : Obj, o = .cells #[.int .u8 wh, .int .u64 (gM m), .int .i64 (gK k), .int .u64 (gV wh m k v)] 42 (0, 0) := ⟨_, rfl⟩
  obtain ⟨oZ, hoZ⟩ : ∃ o : Obj, o = .cells #[.int .u8 0, .int .u64 0, .int .i64 0, .int .u64 0] 42 (0, 0) := ⟨_, rfl⟩
  generalize ha0 : Act.mk _ _ = a0
  haveI : Nonempty (HpW W [] F) := ⟨⟨_, H0⟩⟩
  have cx : ∀ x : HpW W [] F, (x.w.cell? ⟨W.heap.size, 0, none⟩ = some (.int .u8 wh) ∧ x.w.cell? ⟨W.heap.size, 1, none⟩ = some (.int .u64 m) ∧ x.w.cell? ⟨W.heap.size, 2, none⟩ = some (.int .i64 k) ∧ x.w.cell? ⟨W.heap.size, 3, none⟩ = some (.int .u64 u)) :=
    fun x => cells4 (t := 42) (x.h.blk (p := (W.heap.size, _)) (by rw [← hF]; simp))
  have cy : ∀ x : HpW W [] F, (x.w.cell? ⟨W.heap.size + 1, 0, none⟩ = some (.int .u8 wh) ∧ x.w.cell? ⟨W.heap.size + 1, 1, none⟩ = some (.int .u64 m) ∧ x.w.cell? ⟨W.heap.size + 1, 2, none⟩ = some (.int .i64 k) ∧ x.w.cell? ⟨W.heap.size + 1, 3, none⟩ = some (.int .u64 v)) :=
    fun x => cells4 (t := 42) (x.h.blk (p := (W.heap.size + 1, _)) (by rw [← hF]; simp))
  have x0 := fun x => (cx x).1; have x1 := fun x => (cx x).2.1; have x2 := fun x => (cx x).2.2.1; have x3 := fun x => (cx x).2.2.2
  have y0 := fun x => (cy x).1; have y1 := fun x => (cy x).2.1; have y2 := fun x => (cy x).2.2.1; have y3 := fun x => (cy x).2.2.2
  clear cx cy
  have HF := Lib.hid hF; clear hF
  have hsz : a0.tmps.size = 45 := by rw [← ha0]; rfl
  let I : Array Bool → Act → World → Prop := fun l a w => ∃ (vals : Nat → Value) (b4 : Nat) (b5 : Nat), a = fillA [(0, 13), (1, 14), (2, 15), (3, 16), (4, 6), (5, 7)] vals l a0 ∧ (l.getD 0 false = true → vals 0 = .agg #[.int .u8 wh, .int .u64 m, .int .i64 k, .int .u64 u]) ∧ (l.getD 1 false = true → vals 1 = .agg #[.int .u8 wh, .int .u64 (gM m), .int .i64 (gK k), .int .u64 (gV wh m k u)]) ∧ (l.getD 2 false = true → vals 2 = .agg #[.int .u8 wh, .int .u64 m, .int .i64 k, .int .u64 v]) ∧ (l.getD 3 false = true → vals 3 = .agg #[.int .u8 wh, .int .u64 (gM m), .int .i64 (gK k), .int .u64 (gV wh m k v)]) ∧ (l.getD 4 false = true → vals 4 = .pointer (some ⟨b4, 0, none⟩)) ∧ (l.getD 5 false = true → vals 5 = .pointer (some ⟨b5, 0, none⟩)) ∧ (l.getD 6 false = true → l.getD 4 false = true) ∧ (l.getD 7 false = true → l.getD 5 false = true) ∧ Hp W w [] ((if l.getD 4 false = true then [(b4, if l.getD 6 false = true then oA else oZ)] else []) ++ (if l.getD 5 false = true then [(b5, if l.getD 7 false = true then oB else oZ)] else []) ++ F)
  refine wp_region_inv I (by kernel_rfl) ?_ ?_ ?_
  · exact ⟨fun _ => undef, 0, 0, by simp [fillA], by simp, by simp, by simp, by simp, by simp, by simp, by simp, by simp, by simpa using H0.drew⟩
  · intro l a w i hI hs hi
    obtain ⟨vals, b4, b5, rfl, v0, v1, v2, v3, v4, v5, v6, v7, hH⟩ := hI
    obtain ⟨hu1, hu2⟩ := ready_unlisted hs hi
    have hZ : Hp W w [] F := by
      by_cases c4 : l.getD 4 false = true <;> by_cases c5 : l.getD 5 false = true <;> simp only [c4, c5, if_true, if_false, List.nil_append, List.cons_append, List.append_assoc, Bool.false_eq_true, ↓reduceIte] at hH <;> first | exact hH | exact hH.drop | exact hH.drop.drop | exact hH.drop.drop.drop
    have hi8 := (ready_false hs hi).1
    have hi8' : i = 0 ∨ i = 1 ∨ i = 2 ∨ i = 3 ∨ i = 4 ∨ i = 5 ∨ i = 6 ∨ i = 7 := by simp at hi8; omega
    rcases hi8' with rfl | rfl | rfl | rfl | rfl | rfl | rfl | rfl
    · refine wpOp_of rfl rfl ?_
      have hput := fun v => fillA_put (vals := vals) (a := a0) v (show (0, 13) ∈ [(0, 13), (1, 14), (2, 15), (3, 16), (4, 6), (5, 7)] by simp) (by decide) (by decide) hu1 hu2
      have eb : (fillA [(0, 13), (1, 14), (2, 15), (3, 16), (4, 6), (5, 7)] vals l a0).tmps[2]?.getD undef = .pointer (some ⟨W.heap.size, 0, none⟩) := by rw [fillA_get_out (by simp), ← ha0]; rfl
      have k0 := x0 ⟨w, hZ⟩
      have k1 := x1 ⟨w, hZ⟩
      have k2 := x2 ⟨w, hZ⟩
      have k3 := x3 ⟨w, hZ⟩
      simp only at k0 k1 k2 k3
      generalize hA : fillA [(0, 13), (1, 14), (2, 15), (3, 16), (4, 6), (5, 7)] vals l a0 = A at *
      go_simp
      refine ⟨updV vals 0 _, b4, b5, hput _, ?_, ?_, ?_, ?_, ?_, ?_, ?_, ?_, ?_⟩
      all_goals first | (intro _; rfl) | (simp (discharger := decide) only [getD_set_ne, updV_ne]; assumption) | (simp (discharger := decide) only [getD_set_ne]; assumption)
    · refine wpOp_of rfl rfl ?_
      have d0 := ready_deps hi (o := _) rfl ⟨0, .data⟩ (by simp) rfl
      have hput := fun v => fillA_put (vals := vals) (a := a0) v (show (1, 14) ∈ [(0, 13), (1, 14), (2, 15), (3, 16), (4, 6), (5, 7)] by simp) (by decide) (by decide) hu1 hu2
      have e13 := (fillA_get_in (vals := vals) (a := a0) (show (0, 13) ∈ [(0, 13), (1, 14), (2, 15), (3, 16), (4, 6), (5, 7)] by simp) (by decide) (by rw [hsz]; decide) d0).trans (v0 d0)
      generalize hA : fillA [(0, 13), (1, 14), (2, 15), (3, 16), (4, 6), (5, 7)] vals l a0 = A at *
      go_simp
      refine (gfit_hp hH wh m k u h0 h9 hm h1 h2 hu).mono ?_
      rintro e w1 ⟨rfl, hH1⟩
      refine ⟨updV vals 1 _, b4, b5, hput _, ?_, ?_, ?_, ?_, ?_, ?_, ?_, ?_, ?_⟩
      all_goals first | (intro _; rfl) | (simp (discharger := decide) only [getD_set_ne, updV_ne]; assumption) | (simp (discharger := decide) only [getD_set_ne]; assumption)
    · refine wpOp_of rfl rfl ?_
      have hput := fun v => fillA_put (vals := vals) (a := a0) v (show (2, 15) ∈ [(0, 13), (1, 14), (2, 15), (3, 16), (4, 6), (5, 7)] by simp) (by decide) (by decide) hu1 hu2
      have eb : (fillA [(0, 13), (1, 14), (2, 15), (3, 16), (4, 6), (5, 7)] vals l a0).tmps[5]?.getD undef = .pointer (some ⟨W.heap.size + 1, 0, none⟩) := by rw [fillA_get_out (by simp), ← ha0]; rfl
      have k0 := y0 ⟨w, hZ⟩
      have k1 := y1 ⟨w, hZ⟩
      have k2 := y2 ⟨w, hZ⟩
      have k3 := y3 ⟨w, hZ⟩
      simp only at k0 k1 k2 k3
      generalize hA : fillA [(0, 13), (1, 14), (2, 15), (3, 16), (4, 6), (5, 7)] vals l a0 = A at *
      go_simp
      refine ⟨updV vals 2 _, b4, b5, hput _, ?_, ?_, ?_, ?_, ?_, ?_, ?_, ?_, ?_⟩
      all_goals first | (intro _; rfl) | (simp (discharger := decide) only [getD_set_ne, updV_ne]; assumption) | (simp (discharger := decide) only [getD_set_ne]; assumption)
    · refine wpOp_of rfl rfl ?_
      have d2 := ready_deps hi (o := _) rfl ⟨2, .data⟩ (by simp) rfl
      have hput := fun v => fillA_put (vals := vals) (a := a0) v (show (3, 16) ∈ [(0, 13), (1, 14), (2, 15), (3, 16), (4, 6), (5, 7)] by simp) (by decide) (by decide) hu1 hu2
      have e15 := (fillA_get_in (vals := vals) (a := a0) (show (2, 15) ∈ [(0, 13), (1, 14), (2, 15), (3, 16), (4, 6), (5, 7)] by simp) (by decide) (by rw [hsz]; decide) d2).trans (v2 d2)
      generalize hA : fillA [(0, 13), (1, 14), (2, 15), (3, 16), (4, 6), (5, 7)] vals l a0 = A at *
      go_simp
      refine (gfit_hp hH wh m k v h0 h9 hm h1 h2 hv).mono ?_
      rintro e w1 ⟨rfl, hH1⟩
      refine ⟨updV vals 3 _, b4, b5, hput _, ?_, ?_, ?_, ?_, ?_, ?_, ?_, ?_, ?_⟩
      all_goals first | (intro _; rfl) | (simp (discharger := decide) only [getD_set_ne, updV_ne]; assumption) | (simp (discharger := decide) only [getD_set_ne]; assumption)
    · refine wpOp_of rfl rfl ?_
      have hput := fun v => fillA_put (vals := vals) (a := a0) v (show (4, 6) ∈ [(0, 13), (1, 14), (2, 15), (3, 16), (4, 6), (5, 7)] by simp) (by decide) (by decide) hu1 hu2
      generalize hA : fillA [(0, 13), (1, 14), (2, 15), (3, 16), (4, 6), (5, 7)] vals l a0 = A at *
      go_simp
      have hst : l.getD 6 false = false := by cases hc : l.getD 6 false with | false => rfl | true => (have := v6 hc; rw [hu2] at this; cases this)
      refine ⟨updV vals 4 _, w.heap.size, b5, hput _, ?_, ?_, ?_, ?_, ?_, ?_, ?_, ?_, ?_⟩
      all_goals first | (intro _; rfl) | (intro _; exact getD_set_self hu1) | (simp (discharger := decide) only [getD_set_ne, updV_ne]; assumption) | (simp (discharger := decide) only [getD_set_ne]; assumption) | skip
      rw [hu2] at hH
      simp (discharger := decide) only [getD_set_self hu1, getD_set_ne, hst, if_true, if_false, List.nil_append, List.cons_append, List.append_assoc, Bool.false_eq_true, ↓reduceIte] at hH ⊢
      refine Hp.perm (hH.alloc _) ?_
      rw [← hoZ]
      all_goals (exact List.Perm.refl _)
    · refine wpOp_of rfl rfl ?_
      have hput := fun v => fillA_put (vals := vals) (a := a0) v (show (5, 7) ∈ [(0, 13), (1, 14), (2, 15), (3, 16), (4, 6), (5, 7)] by simp) (by decide) (by decide) hu1 hu2
      generalize hA : fillA [(0, 13), (1, 14), (2, 15), (3, 16), (4, 6), (5, 7)] vals l a0 = A at *
      go_simp
      have hst : l.getD 7 false = false := by cases hc : l.getD 7 false with | false => rfl | true => (have := v7 hc; rw [hu2] at this; cases this)
      refine ⟨updV vals 5 _, b4, w.heap.size, hput _, ?_, ?_, ?_, ?_, ?_, ?_, ?_, ?_, ?_⟩
      all_goals first | (intro _; rfl) | (intro _; exact getD_set_self hu1) | (simp (discharger := decide) only [getD_set_ne, updV_ne]; assumption) | (simp (discharger := decide) only [getD_set_ne]; assumption) | skip
      rw [hu2] at hH
      simp (discharger := decide) only [getD_set_self hu1, getD_set_ne, hst, if_true, if_false, List.nil_append, List.cons_append, List.append_assoc, Bool.false_eq_true, ↓reduceIte] at hH ⊢
      refine Hp.perm (hH.alloc _) ?_
      rw [← hoZ]
      all_goals (cases l.getD 4 false <;> simp only [Bool.false_eq_true, ↓reduceIte, List.nil_append, List.cons_append] <;> first | exact List.Perm.refl _ | exact List.Perm.swap _ _ _)
    · refine wpOp_of rfl rfl ?_
      have d4 := ready_deps hi (o := _) rfl ⟨4, .data⟩ (by simp) rfl
      have d1 := ready_deps hi (o := _) rfl ⟨1, .data⟩ (by simp) rfl
      have hput : RowKit.Hid (fillA [(0, 13), (1, 14), (2, 15), (3, 16), (4, 6), (5, 7)] vals l a0 = fillA [(0, 13), (1, 14), (2, 15), (3, 16), (4, 6), (5, 7)] vals (l.setIfInBounds 6 true) a0) := Lib.hid <| fillA_congr a0 (fun x hx => ⟨(getD_set_ne (by simp only [List.mem_cons, List.not_mem_nil, or_false] at hx; rcases hx with rfl | rfl | rfl | rfl | rfl | rfl <;> decide)).symm, fun _ => rfl⟩)
      have e6 := (fillA_get_in (vals := vals) (a := a0) (show (4, 6) ∈ [(0, 13), (1, 14), (2, 15), (3, 16), (4, 6), (5, 7)] by simp) (by decide) (by rw [hsz]; decide) d4).trans (v4 d4)
      have e14 := (fillA_get_in (vals := vals) (a := a0) (show (1, 14) ∈ [(0, 13), (1, 14), (2, 15), (3, 16), (4, 6), (5, 7)] by simp) (by decide) (by rw [hsz]; decide) d1).trans (v1 d1)
      have d5 := ready_deps hi (o := _) rfl ⟨5, .phase⟩ (by simp) rfl
      rw [d4, d5, hu2] at hH
      simp only [if_true, if_false, List.nil_append, List.cons_append, List.append_assoc, Bool.false_eq_true, ↓reduceIte] at hH
      have hb := hH.blk (p := (b4, oZ)) (by simp)
      rw [hoZ] at hb
      obtain ⟨c0, c1, c2, c3⟩ := cells4 hb
      have fr : ∀ q, w.frozen? ⟨b4, q, none⟩ = false := fun q => free_of hb
      have f0 := fr 0; have f1 := fr 1; have f2 := fr 2; have f3 := fr 3
      generalize hA : fillA [(0, 13), (1, 14), (2, 15), (3, 16), (4, 6), (5, 7)] vals l a0 = A at *
      go_simp
      refine ⟨vals, b4, b5, hput.out, ?_, ?_, ?_, ?_, ?_, ?_, ?_, ?_, ?_⟩
      all_goals first | (simp (discharger := decide) only [getD_set_ne]; assumption) | (intro _; simp (discharger := decide) only [getD_set_ne]; assumption) | skip
      simp (discharger := decide) only [getD_set_self hu1, getD_set_ne, d4, d5, if_true, if_false, List.nil_append, List.cons_append, List.append_assoc, Bool.false_eq_true, ↓reduceIte]
      rw [hoA]
      exact (((hH.set 0 (by rw [hoZ]; rfl) 0 _).set 0 rfl 1 _).set 0 rfl 2 _).set 0 rfl 3 _
    · refine wpOp_of rfl rfl ?_
      have d5 := ready_deps hi (o := _) rfl ⟨5, .data⟩ (by simp) rfl
      have d3 := ready_deps hi (o := _) rfl ⟨3, .data⟩ (by simp) rfl
      have hput : RowKit.Hid (fillA [(0, 13), (1, 14), (2, 15), (3, 16), (4, 6), (5, 7)] vals l a0 = fillA [(0, 13), (1, 14), (2, 15), (3, 16), (4, 6), (5, 7)] vals (l.setIfInBounds 7 true) a0) := Lib.hid <| fillA_congr a0 (fun x hx => ⟨(getD_set_ne (by simp only [List.mem_cons, List.not_mem_nil, or_false] at hx; rcases hx with rfl | rfl | rfl | rfl | rfl | rfl <;> decide)).symm, fun _ => rfl⟩)
      have e7 := (fillA_get_in (vals := vals) (a := a0) (show (5, 7) ∈ [(0, 13), (1, 14), (2, 15), (3, 16), (4, 6), (5, 7)] by simp) (by decide) (by rw [hsz]; decide) d5).trans (v5 d5)
      have e16 := (fillA_get_in (vals := vals) (a := a0) (show (3, 16) ∈ [(0, 13), (1, 14), (2, 15), (3, 16), (4, 6), (5, 7)] by simp) (by decide) (by rw [hsz]; decide) d3).trans (v3 d3)
      have d4 := ready_deps hi (o := _) rfl ⟨4, .phase⟩ (by simp) rfl
      rw [d4, d5, hu2] at hH
      simp only [if_true, if_false, List.nil_append, List.cons_append, List.append_assoc, Bool.false_eq_true, ↓reduceIte] at hH
      have hb := hH.blk (p := (b5, oZ)) (by simp)
      rw [hoZ] at hb
      obtain ⟨c0, c1, c2, c3⟩ := cells4 hb
      have fr : ∀ q, w.frozen? ⟨b5, q, none⟩ = false := fun q => free_of hb
      have f0 := fr 0; have f1 := fr 1; have f2 := fr 2; have f3 := fr 3
      generalize hA : fillA [(0, 13), (1, 14), (2, 15), (3, 16), (4, 6), (5, 7)] vals l a0 = A at *
      go_simp
      refine ⟨vals, b4, b5, hput.out, ?_, ?_, ?_, ?_, ?_, ?_, ?_, ?_, ?_⟩
      all_goals first | (simp (discharger := decide) only [getD_set_ne]; assumption) | (intro _; simp (discharger := decide) only [getD_set_ne]; assumption) | skip
      simp (discharger := decide) only [getD_set_self hu1, getD_set_ne, d4, d5, if_true, if_false, List.nil_append, List.cons_append, List.append_assoc, Bool.false_eq_true, ↓reduceIte]
      rw [hoB]
      exact (((hH.set 1 (by rw [hoZ]; rfl) 0 _).set 1 rfl 1 _).set 1 rfl 2 _).set 1 rfl 3 _
  · intro l a w hI hs hr
    have hall := all_listed hr hs (by kernel_rfl)
    have q0 := hall 0 (by simp)
    have q1 := hall 1 (by simp)
    have q2 := hall 2 (by simp)
    have q3 := hall 3 (by simp)
    have q4 := hall 4 (by simp)
    have q5 := hall 5 (by simp)
    have q6 := hall 6 (by simp)
    have q7 := hall 7 (by simp)
    obtain ⟨vals, b4, b5, rfl, v0, v1, v2, v3, v4, v5, v6, v7, hH⟩ := hI
    simp only [q0, q1, q2, q3, q4, q5, q6, q7, if_true, if_false, List.nil_append, List.cons_append, List.append_assoc, Bool.false_eq_true, ↓reduceIte] at hH
    have v0 := v0 q0
    have v1 := v1 q1
    have v2 := v2 q2
    have v3 := v3 q3
    have v4 := v4 q4
    have v5 := v5 q5
    simp only [fillA, List.foldl_cons, List.foldl_nil, q0, q1, q2, q3, q4, q5, v0, v1, v2, v3, v4, v5, if_true]
    rw [← ha0]
    simp only [Act.put, List.setIfInBounds_toArray, List.set_cons_zero, List.set_cons_succ]
    clear q0 q1 q2 q3 q4 q5 q6 q7 v0 v1 v2 v3 v4 v5 v6 v7 x0 x1 x2 x3 y0 y1 y2 y3 I
    generalize hF2 : (b4, oA) :: (b5, oB) :: F = F2 at hH
    haveI : Nonempty (HpW W [] F2) := ⟨⟨_, hH⟩⟩
    have cx : ∀ x : HpW W [] F2, (x.w.cell? ⟨b4, 0, none⟩ = some (.int .u8 wh) ∧ x.w.cell? ⟨b4, 1, none⟩ = some (.int .u64 (gM m)) ∧ x.w.cell? ⟨b4, 2, none⟩ = some (.int .i64 (gK k)) ∧ x.w.cell? ⟨b4, 3, none⟩ = some (.int .u64 (gV wh m k u))) := fun x => cells4 (t := 42) (hoA ▸ x.h.blk (p := (b4, oA)) (by rw [← hF2]; simp))
    have cy : ∀ x : HpW W [] F2, (x.w.cell? ⟨b5, 0, none⟩ = some (.int .u8 wh) ∧ x.w.cell? ⟨b5, 1, none⟩ = some (.int .u64 (gM m)) ∧ x.w.cell? ⟨b5, 2, none⟩ = some (.int .i64 (gK k)) ∧ x.w.cell? ⟨b5, 3, none⟩ = some (.int .u64 (gV wh m k v))) := fun x => cells4 (t := 42) (hoB ▸ x.h.blk (p := (b5, oB)) (by rw [← hF2]; simp))
    have x0 := fun x => (cx x).1; have x1 := fun x => (cx x).2.1; have x2 := fun x => (cx x).2.2.1; have x3 := fun x => (cx x).2.2.2
    have y0 := fun x => (cy x).1; have y1 := fun x => (cy x).2.1; have y2 := fun x => (cy x).2.2.1; have y3 := fun x => (cy x).2.2.2
    clear cx cy
    have HF2 := Lib.hid hF2; clear hF2
    go_wp2_with (fail)
    refine wp_region_hp hH (by kernel_rfl) (by kernel_rfl) ?_
    repeat (go_big_quiet_step ((first | (go_at_call 34; exact HpW.call (code_any (HpW.h _) okA)) | (go_at_call 34; exact HpW.call (code_any (HpW.h _) okB)))))
    refine wpQuiet_nil ?_
    rintro _ ⟨⟨wq, hq⟩, rfl⟩
    have c3 := x3 ⟨_, hq⟩; have d3 := y3 ⟨_, hq⟩
    simp only at c3 d3
    by_cases hE : gV wh m k u = gV wh m k v
    · rw [hE] at c3 ⊢
      go_wp2_with (first | (go_at_call 11; refine (gknown_any hq).mono ?_; rintro e w1 ⟨rfl, hK⟩))
      exact bodyPost_ret (results_tmp rfl _ _ _) rfl ⟨rfl, hK.below⟩
    · have hE' : ¬ gV wh m k v = gV wh m k u := fun h => hE h.symm
      have p1 : decide (cB wh (gM m) (gK k) (gV wh m k v) <+: cB wh (gM m) (gK k) (gV wh m k u)) = false := decide_eq_false (fun h => hE' (cB_prefix okB okA h))
      have p2 : decide (cB wh (gM m) (gK k) (gV wh m k u) <+: cB wh (gM m) (gK k) (gV wh m k v)) = false := decide_eq_false (fun h => hE (cB_prefix okA okB h))
      generalize gV wh m k u = A at *
      generalize gV wh m k v = B at *
      go_wp2_with (first | (go_at_call 35; refine (begins_any _).mono ?_; rintro e w1 ⟨rfl, hB⟩; have hq2 := Hp.same (by assumption) hB; simp only [p1, p2]; clear hB) | (go_at_call 11; refine (gknown_any (by assumption)).mono ?_; rintro e w1 ⟨rfl, hK⟩))
      exact bodyPost_ret (results_tmp rfl _ _ _) rfl ⟨rfl, hK.below⟩

end Go.Proofs.Ytlmkabpdgemndaa
