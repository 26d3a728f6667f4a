/- The reference's Type. -/
import Derived.Test.YtnefiaghojojgaaVo
namespace Go.Proofs.Ytnefiaghojojgaa
open Go.RowKit Go.Shelf
set_option linter.unusedVariables false
set_option maxRecDepth 100000
set_option linter.unusedSimpArgs false

theorem bin_new2 (w : World) (a b c d : Value) (t : TypeId) : ∀ j u, [a, b, c, d][j]? = some u → (w.alloc (.cells #[a, b, c, d] t)).cell? ((⟨w.heap.size, 0, none⟩ : Addr).add j) = some u := by
  intro j u hu
  have e : ((⟨w.heap.size, 0, none⟩ : Addr).add j) = ⟨w.heap.size, j, none⟩ := by unfold Addr.add; split <;> simp_all
  have hn : (w.alloc (.cells #[a, b, c, d] t)).heap[w.heap.size]? = some (.cells #[a, b, c, d] t (0, 0)) := World.alloc_heap_new _ _
  rw [e]
  simp only [World.cell?, hn]
  simpa using hu
theorem bin_new3 (w : World) (o : Obj) (a b c d : Value) (t : TypeId) : ∀ j u, [a, b, c, d][j]? = some u → ((w.alloc o).alloc (.cells #[a, b, c, d] t)).cell? ((⟨w.heap.size + 1, 0, none⟩ : Addr).add j) = some u := by
  have := bin_new2 (w.alloc o) a b c d t
  rw [World.size_alloc] at this
  exact this
theorem b01_eq {l : Int} (h1 : 0 ≤ l) (h2 : l ≤ 1) : b01 (decide (l = 1)) = l := by
  unfold b01
  by_cases h : l = 1
  · rw [decide_eq_true h]; exact h.symm
  · rw [decide_eq_false h]; simp; omega
section
variable {W w : World} {L : List AObj} {F : List (Nat × Obj)}
set_option maxHeartbeats 8000000 in
theorem qtype_t (h : Hp W w L F) (n : Int) (inc : Int) (h1 : 0 ≤ n) (h2 : n ≤ 25) (h3 : 0 ≤ inc) (h4 : inc ≤ 2) :
    Calls Try.prog 31 #[.int .i64 n, .bool true, .int .i64 inc] w fun e w' => ∃ v', e = .returned (.tuple #[v', .int .i64 0]) ∧ Hp W w' (aBn v' (tyB n true inc) :: L) F := by
  have H := Lib.hid h
  clear h
  obtain ⟨i0, hi, hz0, hz1, hz2⟩ := bin_info
  have e0 : tyE n true inc = 0 := if_pos ⟨h1, h2, by omega, by omega, by simp⟩
  obtain ⟨X, hX⟩ : ∃ X, X = tyB n true inc := ⟨_, rfl⟩
  have hX2 := hX
  unfold tyB at hX2
  rw [if_pos e0] at hX2
  rw [← hX]
  clear hX e0
  by_cases z0 : n = 0
  · subst z0
    rw [if_pos rfl] at hX2
    have HX := Lib.hid hX2
    clear hX2
    go_enter Try.func31, Try.ntmps31
    go_wp2_with (fail)
    refine bodyPost_ret (results_tmp2 rfl _ _ _) rfl ⟨_, rfl, ?_⟩
    rw [HX.out]
    exact H.out.bn_lit (3 + inc) 0
  rw [if_neg z0] at hX2
  by_cases z1 : n = 25
  · subst z1
    rw [if_pos rfl] at hX2
    have HX := Lib.hid hX2
    clear hX2 z0
    go_enter Try.func31, Try.ntmps31
    go_wp2_with (fail)
    refine bodyPost_ret (results_tmp2 rfl _ _ _) rfl ⟨_, rfl, ?_⟩
    rw [HX.out]
    exact H.out.bn_lit (3 + inc) 1
  rw [if_neg z1] at hX2
  obtain ⟨m, hm⟩ : ∃ m, (n - 1) % 4 = m := ⟨_, rfl⟩
  obtain ⟨c, hc⟩ : ∃ c, (n - 1) / 4 % 3 = c := ⟨_, rfl⟩
  obtain ⟨l, hl⟩ : ∃ l, (n - 1) / 12 = l := ⟨_, rfl⟩
  rw [hm, hc, hl] at hX2
  obtain ⟨m1, hm1⟩ : ∃ m1, m / 2 = m1 := ⟨_, rfl⟩
  obtain ⟨m2, hm2⟩ : ∃ m2, m % 2 = m2 := ⟨_, rfl⟩
  rw [hm1, hm2] at hX2
  have b1 : 0 ≤ m ∧ m ≤ 3 := by omega
  have b2 : 0 ≤ c ∧ c ≤ 2 := by omega
  have b3 : 0 ≤ l ∧ l ≤ 1 := by omega
  have b4 : 1 ≤ n := by omega
  have b5 : n < 25 := by omega
  have b6 : 0 ≤ m1 ∧ m1 ≤ 1 := by omega
  have b7 : 0 ≤ m2 ∧ m2 ≤ 1 := by omega
  obtain ⟨b11, b12⟩ := b1
  obtain ⟨b21, b22⟩ := b2
  obtain ⟨b31, b32⟩ := b3
  obtain ⟨b61, b62⟩ := b6
  obtain ⟨b71, b72⟩ := b7
  rw [b01_eq b31 b32, b01_eq b61 b62, b01_eq b71 b72] at hX2
  have Ha := Lib.hid (H.out.bn_lit (3 + inc) 1)
  by_cases hc0 : c = 0
  · subst hc0
    have hmn : min (0 : Int) 1 = 0 := rfl
    have hX3 : X = [((3 + inc), 1)] ++ [(6, l), (7, 0)] ++ [(9, m1), (10, m2)] := by rw [hX2]; rfl
    have HX := Lib.hid hX3
    clear hX2 hX3 z0 z1
    go_enter Try.func31, Try.ntmps31
    go_wp2_with (first | (at_builtin; refine wpList_append_hp rfl _ _ 22 rfl 27 i0 (bvl (0, 0)) 2 16 Try.underlying22 hi hz0 hz1 hz2 rfl (by decide) (Ha.out.lost _) 0 at0 rfl ⟨w.heap.size + 1, 0, none⟩ 2 2 (bcs [(6, l), (7, 0)]) rfl rfl ?c0 ?c1 ?c2 ?c3 ?_))
    case c0 => first | exact bin_new2 _ _ _ _ _ _ | exact bin_new3 _ _ _ _ _ _ _ | exact bin_new _ _ _ _ | exact fun j u hu => hu
    case c1 => exact bcs_one _
    case c2 => first | (unfold maxLen; decide) | (simp [maxLen])
    case c3 => first | decide | simp
    intro v1 w1 h5
    try simp only [set0] at h5
    obtain ⟨sp1, cp1, rfl, _, _⟩ := h5.sl_form 0 at0
    rw [← bcs_append] at h5
    have H5 := Lib.hid h5
    clear h5
    go_wp2_with (first | (at_builtin; refine wpList_append_hp rfl _ _ 22 rfl 27 i0 (bvl (0, 0)) 2 16 Try.underlying22 hi hz0 hz1 hz2 rfl (by decide) (H5.out.lost _) 0 at0 rfl ⟨w1.heap.size, 0, none⟩ 2 2 (bcs [(9, m1), (10, m2)]) rfl rfl ?c0 ?c1 ?c2 ?c3 ?_))
    case c0 => first | exact bin_new2 _ _ _ _ _ _ | exact bin_new3 _ _ _ _ _ _ _ | exact bin_new _ _ _ _ | exact fun j u hu => hu
    case c1 => exact bcs_one _
    case c2 => first | (unfold maxLen; decide) | (simp [maxLen])
    case c3 => first | decide | simp
    intro v3 w3 h7
    try simp only [set0] at h7
    rw [← bcs_append] at h7
    have H7 := Lib.hid h7
    clear h7
    go_wp2_with (fail)
    refine bodyPost_ret (results_tmp2 rfl _ _ _) rfl ⟨v3, rfl, ?_⟩
    rw [HX.out]
    exact H7.out
  · have hcn : (c == 0) = false := by simpa using hc0
    have hmn : min c 1 = 1 := by omega
    have hX3 : X = [((3 + inc), 1)] ++ [(6, l), (7, 1)] ++ [(8, c - 1)] ++ [(9, m1), (10, m2)] := by
      rw [hX2, if_neg hc0, decide_eq_true (show c ≠ 0 from hc0)]
      have : b01 (decide (c = 2)) = c - 1 := by
        unfold b01
        by_cases h : c = 2
        · rw [decide_eq_true h, h]; rfl
        · rw [decide_eq_false h]; simp; omega
      rw [this]
      rfl
    have HX := Lib.hid hX3
    clear hX2 hX3 z0 z1 hc0
    have hcp : 0 < c := by have : c ≠ 0 := fun e => (by rw [e] at hcn; simp at hcn); omega
    go_enter Try.func31, Try.ntmps31
    go_wp2_with (first | (at_builtin; refine wpList_append_hp rfl _ _ 22 rfl 27 i0 (bvl (0, 0)) 2 16 Try.underlying22 hi hz0 hz1 hz2 rfl (by decide) (Ha.out.lost _) 0 at0 rfl ⟨w.heap.size + 1, 0, none⟩ 2 2 (bcs [(6, l), (7, 1)]) rfl rfl ?c0 ?c1 ?c2 ?c3 ?_))
    case c0 => first | exact bin_new2 _ _ _ _ _ _ | exact bin_new3 _ _ _ _ _ _ _ | exact bin_new _ _ _ _ | exact fun j u hu => hu
    case c1 => exact bcs_one _
    case c2 => first | (unfold maxLen; decide) | (simp [maxLen])
    case c3 => first | decide | simp
    intro v1 w1 h5
    try simp only [set0] at h5
    obtain ⟨sp1, cp1, rfl, _, _⟩ := h5.sl_form 0 at0
    rw [← bcs_append] at h5
    have H5 := Lib.hid h5
    clear h5
    go_wp2_with (first | (at_builtin; refine wpList_append_hp rfl _ _ 22 rfl 27 i0 (bvl (0, 0)) 2 16 Try.underlying22 hi hz0 hz1 hz2 rfl (by decide) (H5.out.lost _) 0 at0 rfl ⟨w1.heap.size, 0, none⟩ 1 1 (bcs [(8, c - 1)]) rfl rfl ?c0 ?c1 ?c2 ?c3 ?_))
    case c0 => first | exact bin_new2 _ _ _ _ _ _ | exact bin_new3 _ _ _ _ _ _ _ | exact bin_new _ _ _ _ | exact fun j u hu => hu
    case c1 => exact bcs_one _
    case c2 => first | (unfold maxLen; decide) | (simp [maxLen])
    case c3 => first | decide | simp
    intro v2 w2 h6
    try simp only [set0] at h6
    obtain ⟨sp2, cp2, rfl, _, _⟩ := h6.sl_form 0 at0
    rw [← bcs_append] at h6
    have H6 := Lib.hid h6
    clear h6
    go_wp2_with (first | (at_builtin; refine wpList_append_hp rfl _ _ 22 rfl 27 i0 (bvl (0, 0)) 2 16 Try.underlying22 hi hz0 hz1 hz2 rfl (by decide) (H6.out.lost _) 0 at0 rfl ⟨w2.heap.size, 0, none⟩ 2 2 (bcs [(9, m1), (10, m2)]) rfl rfl ?c0 ?c1 ?c2 ?c3 ?_))
    case c0 => first | exact bin_new2 _ _ _ _ _ _ | exact bin_new3 _ _ _ _ _ _ _ | exact bin_new _ _ _ _ | exact fun j u hu => hu
    case c1 => exact bcs_one _
    case c2 => first | (unfold maxLen; decide) | (simp [maxLen])
    case c3 => first | decide | simp
    intro v3 w3 h7
    try simp only [set0] at h7
    rw [← bcs_append] at h7
    have H7 := Lib.hid h7
    clear h7
    go_wp2_with (fail)
    refine bodyPost_ret (results_tmp2 rfl _ _ _) rfl ⟨v3, rfl, ?_⟩
    rw [HX.out]
    exact H7.out
set_option maxHeartbeats 8000000 in
theorem qtype_f (h : Hp W w L F) (n : Int) (h1 : 0 ≤ n) (h2 : n ≤ 25) :
    Calls Try.prog 31 #[.int .i64 n, .bool false, .int .i64 0] w fun e w' => ∃ v', e = .returned (.tuple #[v', .int .i64 0]) ∧ Hp W w' (aBn v' (tyB n false 0) :: L) F := by
  have H := Lib.hid h
  clear h
  obtain ⟨i0, hi, hz0, hz1, hz2⟩ := bin_info
  have e0 : tyE n false 0 = 0 := if_pos ⟨h1, h2, by omega, by omega, by simp⟩
  obtain ⟨X, hX⟩ : ∃ X, X = tyB n false 0 := ⟨_, rfl⟩
  have hX2 := hX
  unfold tyB at hX2
  rw [if_pos e0] at hX2
  rw [← hX]
  clear hX e0
  by_cases z0 : n = 0
  · subst z0
    rw [if_pos rfl] at hX2
    have HX := Lib.hid hX2
    clear hX2
    go_enter Try.func31, Try.ntmps31
    go_wp2_with (fail)
    refine bodyPost_ret (results_tmp2 rfl _ _ _) rfl ⟨_, rfl, ?_⟩
    rw [HX.out]
    exact H.out.bn_lit 15 0
  rw [if_neg z0] at hX2
  by_cases z1 : n = 25
  · subst z1
    rw [if_pos rfl] at hX2
    have HX := Lib.hid hX2
    clear hX2 z0
    go_enter Try.func31, Try.ntmps31
    go_wp2_with (fail)
    refine bodyPost_ret (results_tmp2 rfl _ _ _) rfl ⟨_, rfl, ?_⟩
    rw [HX.out]
    exact H.out.bn_lit 15 1
  rw [if_neg z1] at hX2
  obtain ⟨m, hm⟩ : ∃ m, (n - 1) % 4 = m := ⟨_, rfl⟩
  obtain ⟨c, hc⟩ : ∃ c, (n - 1) / 4 % 3 = c := ⟨_, rfl⟩
  obtain ⟨l, hl⟩ : ∃ l, (n - 1) / 12 = l := ⟨_, rfl⟩
  rw [hm, hc, hl] at hX2
  obtain ⟨m1, hm1⟩ : ∃ m1, m / 2 = m1 := ⟨_, rfl⟩
  obtain ⟨m2, hm2⟩ : ∃ m2, m % 2 = m2 := ⟨_, rfl⟩
  rw [hm1, hm2] at hX2
  have b1 : 0 ≤ m ∧ m ≤ 3 := by omega
  have b2 : 0 ≤ c ∧ c ≤ 2 := by omega
  have b3 : 0 ≤ l ∧ l ≤ 1 := by omega
  have b4 : 1 ≤ n := by omega
  have b5 : n < 25 := by omega
  have b6 : 0 ≤ m1 ∧ m1 ≤ 1 := by omega
  have b7 : 0 ≤ m2 ∧ m2 ≤ 1 := by omega
  obtain ⟨b11, b12⟩ := b1
  obtain ⟨b21, b22⟩ := b2
  obtain ⟨b31, b32⟩ := b3
  obtain ⟨b61, b62⟩ := b6
  obtain ⟨b71, b72⟩ := b7
  rw [b01_eq b31 b32, b01_eq b61 b62, b01_eq b71 b72] at hX2
  have Ha := Lib.hid (H.out.bn_lit 15 1)
  by_cases hc0 : c = 0
  · subst hc0
    have hmn : min (0 : Int) 1 = 0 := rfl
    have hX3 : X = [(15, 1)] ++ [(16, l), (17, 0)] ++ [(19, m1), (20, m2)] := by rw [hX2]; rfl
    have HX := Lib.hid hX3
    clear hX2 hX3 z0 z1
    go_enter Try.func31, Try.ntmps31
    go_wp2_with (first | (at_builtin; refine wpList_append_hp rfl _ _ 22 rfl 27 i0 (bvl (0, 0)) 2 16 Try.underlying22 hi hz0 hz1 hz2 rfl (by decide) (Ha.out.lost _) 0 at0 rfl ⟨w.heap.size + 1, 0, none⟩ 2 2 (bcs [(16, l), (17, 0)]) rfl rfl ?c0 ?c1 ?c2 ?c3 ?_))
    case c0 => first | exact bin_new2 _ _ _ _ _ _ | exact bin_new3 _ _ _ _ _ _ _ | exact bin_new _ _ _ _ | exact fun j u hu => hu
    case c1 => exact bcs_one _
    case c2 => first | (unfold maxLen; decide) | (simp [maxLen])
    case c3 => first | decide | simp
    intro v1 w1 h5
    try simp only [set0] at h5
    obtain ⟨sp1, cp1, rfl, _, _⟩ := h5.sl_form 0 at0
    rw [← bcs_append] at h5
    have H5 := Lib.hid h5
    clear h5
    go_wp2_with (first | (at_builtin; refine wpList_append_hp rfl _ _ 22 rfl 27 i0 (bvl (0, 0)) 2 16 Try.underlying22 hi hz0 hz1 hz2 rfl (by decide) (H5.out.lost _) 0 at0 rfl ⟨w1.heap.size, 0, none⟩ 2 2 (bcs [(19, m1), (20, m2)]) rfl rfl ?c0 ?c1 ?c2 ?c3 ?_))
    case c0 => first | exact bin_new2 _ _ _ _ _ _ | exact bin_new3 _ _ _ _ _ _ _ | exact bin_new _ _ _ _ | exact fun j u hu => hu
    case c1 => exact bcs_one _
    case c2 => first | (unfold maxLen; decide) | (simp [maxLen])
    case c3 => first | decide | simp
    intro v3 w3 h7
    try simp only [set0] at h7
    rw [← bcs_append] at h7
    have H7 := Lib.hid h7
    clear h7
    go_wp2_with (fail)
    refine bodyPost_ret (results_tmp2 rfl _ _ _) rfl ⟨v3, rfl, ?_⟩
    rw [HX.out]
    exact H7.out
  · have hcn : (c == 0) = false := by simpa using hc0
    have hmn : min c 1 = 1 := by omega
    have hX3 : X = [(15, 1)] ++ [(16, l), (17, 1)] ++ [(18, c - 1)] ++ [(19, m1), (20, m2)] := by
      rw [hX2, if_neg hc0, decide_eq_true (show c ≠ 0 from hc0)]
      have : b01 (decide (c = 2)) = c - 1 := by
        unfold b01
        by_cases h : c = 2
        · rw [decide_eq_true h, h]; rfl
        · rw [decide_eq_false h]; simp; omega
      rw [this]
      rfl
    have HX := Lib.hid hX3
    clear hX2 hX3 z0 z1 hc0
    have hcp : 0 < c := by have : c ≠ 0 := fun e => (by rw [e] at hcn; simp at hcn); omega
    go_enter Try.func31, Try.ntmps31
    go_wp2_with (first | (at_builtin; refine wpList_append_hp rfl _ _ 22 rfl 27 i0 (bvl (0, 0)) 2 16 Try.underlying22 hi hz0 hz1 hz2 rfl (by decide) (Ha.out.lost _) 0 at0 rfl ⟨w.heap.size + 1, 0, none⟩ 2 2 (bcs [(16, l), (17, 1)]) rfl rfl ?c0 ?c1 ?c2 ?c3 ?_))
    case c0 => first | exact bin_new2 _ _ _ _ _ _ | exact bin_new3 _ _ _ _ _ _ _ | exact bin_new _ _ _ _ | exact fun j u hu => hu
    case c1 => exact bcs_one _
    case c2 => first | (unfold maxLen; decide) | (simp [maxLen])
    case c3 => first | decide | simp
    intro v1 w1 h5
    try simp only [set0] at h5
    obtain ⟨sp1, cp1, rfl, _, _⟩ := h5.sl_form 0 at0
    rw [← bcs_append] at h5
    have H5 := Lib.hid h5
    clear h5
    go_wp2_with (first | (at_builtin; refine wpList_append_hp rfl _ _ 22 rfl 27 i0 (bvl (0, 0)) 2 16 Try.underlying22 hi hz0 hz1 hz2 rfl (by decide) (H5.out.lost _) 0 at0 rfl ⟨w1.heap.size, 0, none⟩ 1 1 (bcs [(18, c - 1)]) rfl rfl ?c0 ?c1 ?c2 ?c3 ?_))
    case c0 => first | exact bin_new2 _ _ _ _ _ _ | exact bin_new3 _ _ _ _ _ _ _ | exact bin_new _ _ _ _ | exact fun j u hu => hu
    case c1 => exact bcs_one _
    case c2 => first | (unfold maxLen; decide) | (simp [maxLen])
    case c3 => first | decide | simp
    intro v2 w2 h6
    try simp only [set0] at h6
    obtain ⟨sp2, cp2, rfl, _, _⟩ := h6.sl_form 0 at0
    rw [← bcs_append] at h6
    have H6 := Lib.hid h6
    clear h6
    go_wp2_with (first | (at_builtin; refine wpList_append_hp rfl _ _ 22 rfl 27 i0 (bvl (0, 0)) 2 16 Try.underlying22 hi hz0 hz1 hz2 rfl (by decide) (H6.out.lost _) 0 at0 rfl ⟨w2.heap.size, 0, none⟩ 2 2 (bcs [(19, m1), (20, m2)]) rfl rfl ?c0 ?c1 ?c2 ?c3 ?_))
    case c0 => first | exact bin_new2 _ _ _ _ _ _ | exact bin_new3 _ _ _ _ _ _ _ | exact bin_new _ _ _ _ | exact fun j u hu => hu
    case c1 => exact bcs_one _
    case c2 => first | (unfold maxLen; decide) | (simp [maxLen])
    case c3 => first | decide | simp
    intro v3 w3 h7
    try simp only [set0] at h7
    rw [← bcs_append] at h7
    have H7 := Lib.hid h7
    clear h7
    go_wp2_with (fail)
    refine bodyPost_ret (results_tmp2 rfl _ _ _) rfl ⟨v3, rfl, ?_⟩
    rw [HX.out]
    exact H7.out
set_option maxHeartbeats 4000000 in
theorem qtype_bad (h : Hp W w L F) (n : Int) (intra : Bool) (inc : Int) (hb : tyE n intra inc ≠ 0) :
    Calls Try.prog 31 #[.int .i64 n, .bool intra, .int .i64 inc] w fun e w' => e = .returned (.tuple #[.slice none 0 0, .int .i64 3]) ∧ Hp W w' L F := by
  have H := Lib.hid h
  clear h
  have h0 : ¬ (0 ≤ n ∧ n ≤ 25 ∧ 0 ≤ inc ∧ inc ≤ 2 ∧ (intra = false → inc = 0)) := fun h => hb (if_pos h)
  clear hb
  by_cases h1 : n < 0
  · clear h0
    go_enter Try.func31, Try.ntmps31
    go_wp2_with (fail)
    exact bodyPost_ret (results_tmp2 rfl _ _ _) rfl ⟨rfl, H.out⟩
  by_cases h2 : 25 < n
  · clear h0
    go_enter Try.func31, Try.ntmps31
    go_wp2_with (fail)
    exact bodyPost_ret (results_tmp2 rfl _ _ _) rfl ⟨rfl, H.out⟩
  by_cases h3 : inc < 0
  · clear h0
    go_enter Try.func31, Try.ntmps31
    go_wp2_with (fail)
    exact bodyPost_ret (results_tmp2 rfl _ _ _) rfl ⟨rfl, H.out⟩
  by_cases h4 : 2 < inc
  · clear h0
    go_enter Try.func31, Try.ntmps31
    go_wp2_with (fail)
    exact bodyPost_ret (results_tmp2 rfl _ _ _) rfl ⟨rfl, H.out⟩
  cases intra with
  | true => exact absurd ⟨by omega, by omega, by omega, by omega, by simp⟩ h0
  | false =>
    have h5 : inc ≠ 0 := fun e => h0 ⟨by omega, by omega, by omega, by omega, fun _ => e⟩
    have h6 : 0 < inc := by omega
    clear h0 h5
    go_enter Try.func31, Try.ntmps31
    go_wp2_with (fail)
    exact bodyPost_ret (results_tmp2 rfl _ _ _) rfl ⟨rfl, H.out⟩
theorem qtype_any (h : Hp W w L F) (n : Int) (intra : Bool) (inc : Int) :
    Calls Try.prog 31 #[.int .i64 n, .bool intra, .int .i64 inc] w fun e w' => ∃ v', e = .returned (.tuple #[v', .int .i64 (tyE n intra inc)]) ∧ Hp W w' (aBn v' (tyB n intra inc) :: L) F := by
  by_cases hE : tyE n intra inc = 0
  · have hc : 0 ≤ n ∧ n ≤ 25 ∧ 0 ≤ inc ∧ inc ≤ 2 ∧ (intra = false → inc = 0) := by unfold tyE at hE; split at hE <;> first | assumption | omega
    rw [hE]
    cases intra with
    | true => exact qtype_t h n inc hc.1 hc.2.1 hc.2.2.1 hc.2.2.2.1
    | false =>
      obtain rfl := hc.2.2.2.2 rfl
      exact qtype_f h n hc.1 hc.2.1
  · have hB : tyB n intra inc = [] := if_neg hE
    have h3 : tyE n intra inc = 3 := by
      by_cases c : 0 ≤ n ∧ n ≤ 25 ∧ 0 ≤ inc ∧ inc ≤ 2 ∧ (intra = false → inc = 0)
      · exact absurd (if_pos c) hE
      · exact if_neg c
    refine (qtype_bad h n intra inc hE).mono ?_
    rintro e w' ⟨rfl, h'⟩
    rw [hB, h3]
    exact ⟨_, rfl, h'.sl_nil _ _⟩
end

end Go.Proofs.Ytnefiaghojojgaa
