/- ABlockShapes. -/
import Derived.Test.YtchoiimmcgkimaaDoorJh
import Derived.Test.YtchoiimmcgkimaaDoorVf
namespace Go.Proofs.YtchoiimmcgkimaaDoor
open Go.RowKit Go.Shelf
set_option linter.unusedVariables false
set_option maxRecDepth 100000
set_option linter.unusedSimpArgs false

def otK (c : Nat) : Nat := [2, 4, 0, 3, 1].getD c 0
theorem otK_le {c : Nat} (h : c ≤ 4) : otK c ≤ 4 ∧ szK (otK c) = szK c := by
  obtain rfl | rfl | rfl | rfl | rfl : c = 0 ∨ c = 1 ∨ c = 2 ∨ c = 3 ∨ c = 4 := by omega
  all_goals decide
theorem ot_index {c : Nat} (h : c ≤ 4) (w : World) : (Instr.index 33 (.agg #[.int .u8 2, .int .u8 4, .int .u8 0, .int .u8 3, .int .u8 1]) (.int .u8 (c : Int))).run Tryd.prog w = .ok (.int .u8 (otK c : Int)) w := by
  obtain rfl | rfl | rfl | rfl | rfl : c = 0 ∨ c = 1 ∨ c = 2 ∨ c = 3 ∨ c = 4 := by omega
  all_goals kernel_rfl
theorem blk_head (cat inc : Int) (n : Nat) (f : Nat → Int) : blkB cat inc n f = (66 + 4 * cat + inc, b1 (decide (lk f n ≠ 0))) :: blkT cat n f := rfl
theorem lk_all {f : Nat → Int} {n : Nat} : lk f n = 0 ↔ ∀ i, i < n → f i = 0 := by
  constructor
  · intro h i hi; exact lk_zero (by omega) hi
  · intro h
    rcases Nat.eq_zero_or_pos (lk f n) with h' | h'
    · exact h'
    · obtain ⟨j, hj⟩ : ∃ j, lk f n = j + 1 := ⟨lk f n - 1, by omega⟩
      exact absurd (h j (by have := lk_le f n; omega)) (lk_nz hj)
section
variable {W w : World} {L : List AObj} {F : List (Nat × Obj)}
theorem eqb_tail (h : Hp W w L F) (j k : Nat) {ga ca gb cb c d : Nat} {q1 q2 : Option Addr} {A B : List (Int × Int)} (hj : L[j]? = some (aBn (.slice (some ⟨ga, 0, none⟩) A.length ca) A)) (hk : L[k]? = some (aBn (.slice (some ⟨gb, 0, none⟩) B.length cb) B)) (hA : A.length ≤ 6000 ∧ 0 < A.length) (hB : B.length ≤ 6000 ∧ 0 < B.length) (h1 : 0 < A.length - 1 → q1 = some ⟨ga, 0 + 2, none⟩) (h2 : 0 < B.length - 1 → q2 = some ⟨gb, 0 + 2, none⟩) {n m : Nat} (hn : n = A.length - 1) (hm : m = B.length - 1) {r : Bool} (hr : decide (A.tail = B.tail) = r) :
    Calls Tryd.prog 7 #[.slice q1 n c, .slice q2 m d] w fun e w' => e = .returned (.bool r) ∧ Hp W w' L F := by
  subst hr hn hm
  have t : ∀ {g ca : Nat} {q : Option Addr} {A : List (Int × Int)} (i : Nat), L[i]? = some (aBn (.slice (some ⟨g, 0, none⟩) A.length ca) A) → A.length ≤ 6000 ∧ 0 < A.length → (0 < A.length - 1 → q = some ⟨g, 0 + 2, none⟩) → BnIn w q (A.length - 1) g (0 + 2) A.tail := fun i hi hl hq => by
    obtain ⟨q1, c', _, hb⟩ := slice_from (h.bnAt i hi (by omega)).1 (h.bnAt i hi (by omega)).2.1 hl.2
    exact ⟨hb.len, hb.le, hq, hb.cell⟩
  exact (equal_any (t j hj hA h1) (t k hk hB h2)).mono fun _ _ ⟨he, x, hw⟩ => ⟨he, by subst hw; exact h.drewN x⟩
end

set_option maxHeartbeats 16000000 in
theorem shapes_walk {W : World} (hz : SzIn W) {ca : Nat} (hca : ca < 256) {inc : Int} (hinc : In64 inc) {sp : Option Addr} {n c ga0 o0 : Nat} {X : Nat → Int} (hX : InA W sp n ga0 o0 X) (hn : n ≤ maxLen) :
    Calls Tryd.prog 3 #[.agg #[.int .u8 (ca : Int), .int .i64 inc, .slice sp n c]] W fun e w' => e = .returned (.bool true) ∧ Below W.heap.size W w' := by
  obtain ⟨j0, hj, hj0, hj1, hj2⟩ := int_info
  obtain ⟨cm, hcm⟩ : ∃ x, ca % 5 = x := ⟨_, rfl⟩
  obtain ⟨im, him⟩ : ∃ x, inc % 4 = x := ⟨_, rfl⟩
  obtain ⟨S, hS⟩ : ∃ x, szK cm = x := ⟨_, rfl⟩
  have c4 : cm ≤ 4 := by omega
  have i4 : 0 ≤ im ∧ im ≤ 3 := by omega
  have s16 : 0 < S ∧ S ≤ 16 := by rw [← hS]; have := szK_pos c4; have := szK_le cm; omega
  have HS0 := Lib.hid s16
  obtain ⟨f, hf⟩ : ∃ f, fitF n X = f := ⟨_, rfl⟩
  have b1f : ∀ i, (f i).natAbs ≤ 32768 := fun i => by rw [← hf]; exact fitF_le _ _ _
  obtain ⟨fn, hfn⟩ : ∃ g : Nat → Int, g = fun i => -f i := ⟨_, rfl⟩
  have b1n : ∀ i, (fn i).natAbs ≤ 32768 := fun i => by rw [hfn]; simp only [Int.natAbs_neg]; exact b1f i
  obtain ⟨im2, him2⟩ : ∃ x, (im + 1) % 4 = x := ⟨_, rfl⟩
  obtain ⟨cd, hcd⟩ : ∃ x, otK cm = x := ⟨_, rfl⟩
  have hcd4 := otK_le c4
  rw [hcd] at hcd4
  obtain ⟨A, hA⟩ : ∃ A, blkB (cm : Int) im S f = A := ⟨_, rfl⟩
  obtain ⟨B, hB⟩ : ∃ A, blkB (cm : Int) im2 S f = A := ⟨_, rfl⟩
  obtain ⟨C, hC⟩ : ∃ A, blkB (cm : Int) im S fn = A := ⟨_, rfl⟩
  obtain ⟨D, hD⟩ : ∃ A, blkB (cd : Int) im S f = A := ⟨_, rfl⟩
  have hlA := blk_len (cat := (cm : Int)) (inc := im) b1f s16.2
  rw [hA] at hlA
  obtain ⟨zb, hzb⟩ : ∃ z : Bool, decide (lk f S = 0) = z := ⟨_, rfl⟩
  have hA0 : 0 < A.length := by rw [← hA, blk_head]; simp
  have el1 : ((A.length : Int) == 1) = zb := by rw [← hzb, Bool.eq_iff_iff]; simp only [beq_iff_eq, decide_eq_true_eq]; have := hlA.2; omega
  obtain ⟨t0, ht0⟩ : ∃ t, b1 (decide (lk f S ≠ 0)) = t := ⟨_, rfl⟩
  have t01 : t0 = 0 ∨ t0 = 1 := by rw [← ht0]; unfold b1; split <;> simp
  have et0 : min 1 ((A.length : Int) - 1) = t0 := by
    rw [← ht0]
    by_cases e : lk f S = 0
    · rw [decide_eq_false (by simpa using e)]; have := hlA.2.1 e; simp [b1]; omega
    · rw [decide_eq_true e]; have : A.length ≠ 1 := fun x => e (hlA.2.2 x); simp [b1]; omega
  obtain ⟨X1, hX1⟩ : ∃ x, 66 + 4 * (cm : Int) + im = x := ⟨_, rfl⟩
  obtain ⟨X2, hX2⟩ : ∃ x, 66 + 4 * (cm : Int) + im2 = x := ⟨_, rfl⟩
  have HA0 := Lib.hid (show A.getD 0 (0, 0) = (X1, t0) by rw [← hA, blk_head, hX1, ht0]; rfl)
  have HB0 := Lib.hid (show B.getD 0 (0, 0) = (X2, t0) by rw [← hB, blk_head, hX2, ht0]; rfl)
  have HAB := Lib.hid (show A.tail = B.tail by rw [← hA, ← hB, blk_head, blk_head]; rfl)
  have hBl : B.length = A.length := by rw [← hA, ← hB, blk_head, blk_head]; rfl
  have HAC := Lib.hid (show Al2 Rsg A C by rw [← hA, ← hC, hfn]; exact blk_neg _ _ _ _)
  have HAD := Lib.hid (show Al2 Rot A D by rw [← hA, ← hD]; exact blk_other (by omega) (by omega) i4.1 _ _)
  have hCl := HAC.out.length
  have hDl := HAD.out.length
  have HA := Lib.hid (show A.length ≤ 6000 from hlA.1)
  have HAl := Lib.hid (And.intro hlA.1 hA0)
  have HBl := Lib.hid (show B.length ≤ 6000 ∧ 0 < B.length by rw [hBl]; exact ⟨hlA.1, hA0⟩)
  have HF1 := Lib.hid hf
  have HBF := Lib.hid (show ∀ i, i < S → (f i).natAbs ≤ 32768 from fun i _ => b1f i)
  have HBN := Lib.hid (show ∀ i, i < S → (fn i).natAbs ≤ 32768 from fun i _ => b1n i)
  have HNF := Lib.hid hfn
  have HBA := Lib.hid (And.intro hA (And.intro hB (And.intro hC hD)))
  have HZB := Lib.hid hzb
  have HSZ := Lib.hid (show szK cm = S ∧ szK cd = S from ⟨hS, by rw [hcd4.2]; exact hS⟩)
  have HZ := Lib.hid hz
  have HXA := Lib.hid (And.intro hX hn)
  have HC := Lib.hid (And.intro hca (And.intro hinc (And.intro hcm him)))
  have hcd4' := hcd4.1
  have i42 : 0 ≤ im2 ∧ im2 ≤ 3 := by omega
  have m1 : IntKind.i64.wrap (im + 1) = im + 1 := by rw [IntKind.wrap_i64]; omega
  have m2 : Int.tmod (im + 1) 4 = im2 := by rw [Int.tmod_eq_emod_of_nonneg (by omega)]; exact him2
  have m3 : IntKind.i64.wrap im2 = im2 := by rw [IntKind.wrap_i64]; omega
  have n1 : IntKind.i64.wrap (cm : Int) = (cm : Int) := by rw [IntKind.wrap_i64]; omega
  have n2 : IntKind.i64.wrap (4 * (cm : Int)) = 4 * (cm : Int) := by rw [IntKind.wrap_i64]; omega
  have n3 : IntKind.i64.wrap (66 + 4 * (cm : Int)) = 66 + 4 * (cm : Int) := by rw [IntKind.wrap_i64]; omega
  have n4 : IntKind.i64.wrap (66 + 4 * (cm : Int) + im) = X1 := by rw [IntKind.wrap_i64]; omega
  have n5 : IntKind.i64.wrap ((A.length : Int) - 1) = (A.length : Int) - 1 := by rw [IntKind.wrap_i64]; omega
  have n6 : IntKind.u8.wrap t0 = t0 := by rw [IntKind.wrap_u8]; omega
  have nX0 : X2 ≠ X1 := by rw [← hX1, ← hX2]; omega
  have nX : (X2 == X1) = false := by simp [nX0]
  have nt : (t0 != t0) = false := by simp
  have nz : (zb != zb) = false := by simp
  have lB : ((B.length : Int) != (A.length : Int)) = false := by rw [hBl]; simp
  have lC : ((C.length : Int) != (A.length : Int)) = false := by rw [hCl]; simp
  have lD : ((D.length : Int) != (A.length : Int)) = false := by rw [hDl]; simp
  have lA : ((A.length : Int) == 0) = false := by rw [beq_eq_false_iff_ne]; omega
  have lA2 : ¬ (A.length : Int) = 0 := by omega
  have hix := fun w => ot_index c4 w
  rw [hcd] at hix
  have hqb := fun w => bin_eq X1 t0 X1 t0 w
  rw [decide_eq_true rfl] at hqb
  have H0 := Lib.hid ((Hp.start W).alloc (bkO (ca : Int) inc (.slice sp n c)))
  obtain ⟨p, hp⟩ : ∃ p, W.heap.size = p := ⟨_, rfl⟩
  have A0i : (0 : Int) < (A.length : Int) := by omega
  have B0i : (0 : Int) < (B.length : Int) := by omega
  have A1i : (1 : Int) ≤ (A.length : Int) := by omega
  have B1i : (1 : Int) ≤ (B.length : Int) := by omega
  clear hz hX hn hcm him hS hf hfn b1f b1n hA hB hC hD hlA hzb hA0 ht0 t01 hX1 hX2 hBl hCl hDl hca hinc him2 hcd hcd4 s16
  rw [hp] at H0
  go_enter Tryd.func3, Tryd.ntmps3
  go_upto_region 1 with (fail)
  obtain ⟨s0, s1, s2⟩ := bk_cells (H0.out.blk (.head _))
  have HP := Lib.hid hp
  clear hp
  have h0 := H0.out
  clear H0
  have hX1 := HXA.out.1.later h0.below
  have HX1 := Lib.hid (And.intro hX1 HXA.out.2)
  clear hX1
  generalize (W.alloc (.cells #[.int .u8 (ca : Int), .int .i64 inc, .slice sp n c] 24 (0, 0))) = w0 at *
  go_upto_region 2 with (first | (go_at_call 5; (with_reducible refine (fit_is h0 HZ.out HC.out.1 HC.out.2.1 HX1.out.1 HX1.out.2 HC.out.2.2.1 HC.out.2.2.2 HSZ.out.1 HF1.out).mono ?_); rintro e w1 ⟨g1, c1, k1, rfl, h1⟩; clear h0 s0 s1 s2; obtain ⟨s0, s1, s2⟩ := bk_cells (h1.blk (.head _)); obtain ⟨f0, f1', f2'⟩ := bk_free (h1.blk (.head _))))
  have h2 : Hp W (((w1.setCell ⟨p, 0, none⟩ (.int .u8 (cm : Int))).setCell ⟨p, 1, none⟩ (.int .i64 im)).setCell ⟨p, 2, none⟩ (.slice (some ⟨g1, 0, none⟩) S c1)) _ ((p, bkO (cm : Int) im (.slice (some ⟨g1, 0, none⟩) S c1)) :: []) := ((h1.set 0 rfl 0 (.int .u8 (cm : Int))).set 0 rfl 1 (.int .i64 im)).set 0 rfl 2 (.slice (some ⟨g1, 0, none⟩) S c1)
  clear h1 s0 s1 s2 f0 f1' f2'
  generalize (((w1.setCell ⟨p, 0, none⟩ (.int .u8 (cm : Int))).setCell ⟨p, 1, none⟩ (.int .i64 im)).setCell ⟨p, 2, none⟩ (.slice (some ⟨g1, 0, none⟩) S c1)) = w2 at h2 ⊢
  obtain ⟨s0, s1, s2⟩ := bk_cells (h2.blk (.head _))
  go_upto_region 5 with (first | (go_at_call 6; (with_reducible refine (bins_at h2 HZ.out c4 i4 HSZ.out.1.symm k1 (h2.intIn 0 rfl HS0.out.1) HBF.out HBA.out.1).mono ?_); rintro e w5 ⟨ga, ca2, rfl, h5⟩; clear h2 s0 s1 s2))
  have h6 := h5.sl_nil 3 1
  have H6 := Lib.hid (show Hp W w5 (aSl 3 1 (.slice none 0 0) 0 (((List.range 0).map fn).map (.int .i64)) :: [aBn (.slice (some ⟨ga, 0, none⟩) A.length ca2) A, aSl 3 1 (.slice (some ⟨g1, 0, none⟩) S c1) S (((List.range S).map f).map (.int .i64))]) ((p, bkO (cm : Int) im (.slice (some ⟨g1, 0, none⟩) S c1)) :: []) by simpa only [List.map_map, List.range_zero, List.map_nil] using h6)
  clear h5 h6
  go_wp2_with (fail)
  go_loopw [5, 6, 7] (fun zv tv ii wr => ∃ (k : Nat) (zz : Bool), ii = .int .i64 (k : Int) ∧ k ≤ S ∧ zv = .bool zz ∧ (zz = true ↔ ∀ i, i < k → f i = 0) ∧ Hp W wr (aSl 3 1 tv k (((List.range k).map fn).map (.int .i64)) :: [aBn (.slice (some ⟨ga, 0, none⟩) A.length ca2) A, aSl 3 1 (.slice (some ⟨g1, 0, none⟩) S c1) S (((List.range S).map f).map (.int .i64))]) ((p, bkO (cm : Int) im (.slice (some ⟨g1, 0, none⟩) S c1)) :: [])) (fun _ _ ii _ => S - (intOf ii).toNat)
  case atStart => exact ⟨0, true, rfl, by omega, rfl, by simp, H6.out⟩
  case round =>
    obtain ⟨k, zz, rfl, hk, rfl, hzz, g⟩ := hrel
    clear H6
    have HZZ := Lib.hid hzz
    clear hzz
    obtain ⟨s0, s1, s2⟩ := bk_cells (g.blk (.head _))
    have kw : IntKind.i64.wrap ((k : Int) + 1) = (k : Int) + 1 := by have := HS0.out; rw [IntKind.wrap_i64]; omega
    have k0 : (0 : Int) ≤ (k : Int) := by omega
    obtain ⟨spt, cpt, rfl, _, _⟩ := g.sl_form 0 at0
    by_cases hkS : k < S
    · have i1 : (k : Int) < (S : Int) := by omega
      have q1 := (g.intIn 2 rfl HS0.out.1).cell k hkS
      rw [Nat.zero_add] at q1
      obtain ⟨z, hz⟩ : ∃ z, f k = z := ⟨_, rfl⟩
      have hzbd := HBF.out k hkS
      rw [hz] at q1 hzbd
      have nw : IntKind.i64.wrap (-z) = -z := by rw [IntKind.wrap_i64]; omega
      have HV := Lib.hid (show fn k = -z by rw [HNF.out]; simp only [hz])
      obtain ⟨e0, he0⟩ : ∃ b : Bool, (z == 0) = b := ⟨_, rfl⟩
      obtain ⟨zz2, hzz2⟩ : ∃ b : Bool, (zz && e0) = b := ⟨_, rfl⟩
      have HZ2 := Lib.hid (show zz2 = true ↔ ∀ i, i < k + 1 → f i = 0 by
        rw [← hzz2, Bool.and_eq_true, HZZ.out, ← he0]
        constructor
        · intro ⟨a, b⟩ i hi
          by_cases hik : i < k
          · exact a i hik
          · obtain rfl : i = k := by omega
            rw [hz]; simpa using b
        · intro h
          exact ⟨fun i hi => h i (by omega), by have := h k (by omega); rw [hz] at this; simp [this]⟩)
      clear hz hzbd
      cases zz with
      | true =>
        simp only [Bool.true_and] at hzz2
        subst hzz2
        clear HZZ
        go_wp2_with (first | (at_builtin; refine wpList_append_hp rfl _ _ 22 rfl 3 j0 (.int .i64 0) 1 8 Tryd.underlying22 hj hj0 hj1 hj2 rfl (by decide) (g.lost _) 0 at0 rfl ⟨wr.heap.size, 0, none⟩ 1 1 [.int .i64 (-z)] rfl ?c0 ?c1 ?c2 ?c3 ?c4 ?_))
        try (case c0 => rfl)
        try (case c1 => exact int_new _ _ _)
        case c2 => first | rfl | (intro u hu; simp at hu; subst hu; rfl)
        case c3 => have := HS0.out; unfold maxLen; omega
        case c4 => have := HS0.out; omega
        intro v2 w2' h2
        try simp only [set0] at h2
        have HH := Lib.hid h2
        clear h2
        go_wp2_with (fail)
        go_roundw
        case rel =>
          refine ⟨k + 1, _, by go_num, by omega, rfl, HZ2.out, ?_⟩
          have e := fit_next fn k
          rw [HV.out] at e
          rw [e]
          simpa only [List.map_map] using HH.out
        case measure => simp [intOf]; omega
      | false =>
        simp only [Bool.false_and] at hzz2
        subst hzz2
        clear HZZ
        go_wp2_with (first | (at_builtin; refine wpList_append_hp rfl _ _ 22 rfl 3 j0 (.int .i64 0) 1 8 Tryd.underlying22 hj hj0 hj1 hj2 rfl (by decide) (g.lost _) 0 at0 rfl ⟨wr.heap.size, 0, none⟩ 1 1 [.int .i64 (-z)] rfl ?c0 ?c1 ?c2 ?c3 ?c4 ?_))
        try (case c0 => rfl)
        try (case c1 => exact int_new _ _ _)
        case c2 => first | rfl | (intro u hu; simp at hu; subst hu; rfl)
        case c3 => have := HS0.out; unfold maxLen; omega
        case c4 => have := HS0.out; omega
        intro v2 w2' h2
        try simp only [set0] at h2
        have HH := Lib.hid h2
        clear h2
        go_wp2_with (fail)
        go_roundw
        case rel =>
          refine ⟨k + 1, _, by go_num, by omega, rfl, HZ2.out, ?_⟩
          have e := fit_next fn k
          rw [HV.out] at e
          rw [e]
          simpa only [List.map_map] using HH.out
        case measure => simp [intOf]; omega
    · obtain rfl : S = k := by omega
      have i1 : ¬ (S : Int) < (S : Int) := by omega
      have hzz3 : zz = zb := by
        rw [← HZB.out, Bool.eq_iff_iff, HZZ.out, decide_eq_true_iff, lk_all]
      subst hzz3
      obtain ⟨gt, ct, hst⟩ := sl_pos (g.sl 0 rfl) HS0.out.1
      injection hst with e1 e2 e3
      subst e1
      have kt : S ≤ cpt := by
        rcases (g.sl 0 rfl).2 with ⟨e, _⟩ | ⟨_, _, _, e, _, _, e2, _⟩
        · cases e
        · injection e with _ _ e3; omega
      clear e2 e3 HZZ hkS hk
      obtain ⟨a1, a2⟩ := bn_cell g 1 rfl (by have := HAl.out.2; omega) HA0.out
      rw [Nat.zero_mul] at a1 a2
      go_upto_region 12 with (fail)
      go_quiet (fail)
      replace g := g.drewN nq
      clear a1 a2 s0 s1 s2
      generalize (wr.drewN nq) = w7 at *
      obtain ⟨s0, s1, s2⟩ := bk_cells (g.blk (.head _))
      go_upto_region 15 with (first | (go_at_call 6; (with_reducible refine (bins_at g HZ.out c4 i42 HSZ.out.1.symm k1 (g.intIn 2 rfl HS0.out.1) HBF.out HBA.out.2.1).mono ?_); rintro e w8 ⟨gb, cb, rfl, h8⟩; clear g s0 s1 s2))
      obtain ⟨q1, d1, hs1, bn1⟩ := slice_from (h8.bnAt 2 rfl (by have := HAl.out; omega)).1 (h8.bnAt 2 rfl (by have := HAl.out; omega)).2.1 HAl.out.2
      obtain ⟨q2, d2, hs2, bn2⟩ := slice_from (h8.bnAt 0 rfl (by have := HBl.out; omega)).1 (h8.bnAt 0 rfl (by have := HBl.out; omega)).2.1 HBl.out.2
      have HQ1 := Lib.hid bn1.at_
      have HQ2 := Lib.hid bn2.at_
      clear bn1 bn2
      obtain ⟨LL, hLL⟩ : ∃ L : List AObj, L = aBn (.slice (some ⟨gb, 0, none⟩) B.length cb) B :: aSl 3 1 (.slice (some ⟨gt, 0, none⟩) S cpt) S (((List.range S).map fn).map (.int .i64)) :: [aBn (.slice (some ⟨ga, 0, none⟩) A.length ca2) A, aSl 3 1 (.slice (some ⟨g1, 0, none⟩) S c1) S (((List.range S).map f).map (.int .i64))] := ⟨_, rfl⟩
      have h9 : Hp W w8 LL ((p, bkO (cm : Int) im (.slice (some ⟨g1, 0, none⟩) S c1)) :: []) := by rw [hLL]; simpa only [List.map_map] using h8
      have HLL := Lib.hid hLL
      have HL0 := Lib.hid (show LL[0]? = some (aBn (.slice (some ⟨gb, 0, none⟩) B.length cb) B) by rw [hLL]; rfl)
      have HL2 := Lib.hid (show LL[2]? = some (aBn (.slice (some ⟨ga, 0, none⟩) A.length ca2) A) by rw [hLL]; rfl)
      clear h8 hLL
      haveI : Nonempty (HpV W LL ((p, bkO (cm : Int) im (.slice (some ⟨g1, 0, none⟩) S c1)) :: [])) := ⟨⟨_, h9⟩⟩
      have xa0 : ∀ x : HpV W LL ((p, bkO (cm : Int) im (.slice (some ⟨g1, 0, none⟩) S c1)) :: []), x.w.cell? ⟨ga, 0, none⟩ = some (.int .i64 X1) := fun x => by have := (bn_cell x.h 2 HL2.out HAl.out.2 HA0.out).1; rwa [Nat.zero_mul] at this
      have xa1 : ∀ x : HpV W LL ((p, bkO (cm : Int) im (.slice (some ⟨g1, 0, none⟩) S c1)) :: []), x.w.cell? ⟨ga, 1, none⟩ = some (.int .u8 t0) := fun x => by have := (bn_cell x.h 2 HL2.out HAl.out.2 HA0.out).2; rwa [Nat.zero_mul] at this
      have xb0 : ∀ x : HpV W LL ((p, bkO (cm : Int) im (.slice (some ⟨g1, 0, none⟩) S c1)) :: []), x.w.cell? ⟨gb, 0, none⟩ = some (.int .i64 X2) := fun x => by have := (bn_cell x.h 0 HL0.out HBl.out.2 HB0.out).1; rwa [Nat.zero_mul] at this
      have xb1 : ∀ x : HpV W LL ((p, bkO (cm : Int) im (.slice (some ⟨g1, 0, none⟩) S c1)) :: []), x.w.cell? ⟨gb, 1, none⟩ = some (.int .u8 t0) := fun x => by have := (bn_cell x.h 0 HL0.out HBl.out.2 HB0.out).2; rwa [Nat.zero_mul] at this
      have HG := Lib.hid h9
      clear h9
      refine wp_region_hv HG.out (by kernel_rfl) (by kernel_rfl) ?_
      repeat (go_big_quiet_step ((first | (go_at_call 7; with_reducible exact HpV.call (eqb_tail (HpV.h _) 2 0 HL2.out HL0.out HAl.out HBl.out HQ1.out HQ2.out rfl rfl (decide_eq_true HAB.out))))))
      refine wpQuiet_nil ?_
      rintro _ ⟨⟨wq, hq⟩, rfl⟩
      rw [HLL.out] at hq
      clear xa0 xa1 xb0 xb1 HG hs1 hs2 HQ1 HQ2 HL0 HL2 HLL
      replace hq := hq.tail
      obtain ⟨s0, s1, s2⟩ := bk_cells (hq.blk (.head _))
      go_upto_region 20 with (first | (go_at_call 6; (with_reducible refine (bins_at hq HZ.out c4 i4 HSZ.out.1.symm kt (hq.intIn 0 rfl HS0.out.1) HBN.out HBA.out.2.2.1).mono ?_); rintro e w10 ⟨gc, cc, rfl, h10⟩; clear hq s0 s1 s2))
      have H10 := Lib.hid h10
      clear h10
      go_wp2_with (fail)
      go_loopw [10] (fun ii wr => ∃ k : Nat, ii = .int .i64 (k : Int) ∧ k ≤ A.length ∧ Hp W wr (aBn (.slice (some ⟨gc, 0, none⟩) C.length cc) C :: aSl 3 1 (.slice (some ⟨gt, 0, none⟩) S cpt) S (((List.range S).map fn).map (.int .i64)) :: [aBn (.slice (some ⟨ga, 0, none⟩) A.length ca2) A, aSl 3 1 (.slice (some ⟨g1, 0, none⟩) S c1) S (((List.range S).map f).map (.int .i64))]) ((p, bkO (cm : Int) im (.slice (some ⟨g1, 0, none⟩) S c1)) :: [])) (fun ii _ => A.length - (intOf ii).toNat)
      case atStart => exact ⟨0, rfl, by omega, H10.out⟩
      case round =>
        obtain ⟨k, rfl, hk, g⟩ := hrel
        clear H10
        have kw : IntKind.i64.wrap ((k : Int) + 1) = (k : Int) + 1 := by have := HA.out; rw [IntKind.wrap_i64]; omega
        have k0 : (0 : Int) ≤ (k : Int) := by omega
        by_cases hkA : k < A.length
        · have i1 : (k : Int) < (A.length : Int) := by omega
          obtain ⟨⟨u1, u2⟩, hu⟩ : ∃ b, A.getD k (0, 0) = b := ⟨_, rfl⟩
          obtain ⟨⟨v1, v2⟩, hv⟩ : ∃ b, C.getD k (0, 0) = b := ⟨_, rfl⟩
          have hrl := HAC.out.get k hkA
          rw [hu, hv] at hrl
          obtain ⟨r1, r2⟩ := hrl
          obtain ⟨x1, x2⟩ := bn_cell g 2 rfl hkA hu
          obtain ⟨y1, y2⟩ := bn_cell g 0 rfl (by have := HAC.out.length; omega) hv
          have hln := HAC.out.length
          have i2 : (k : Int) < (C.length : Int) := by omega
          simp only at r1 r2
          subst r1
          have e1 : (v1 != v1) = false := by simp
          by_cases hb : v2 = u2
          · have e2 : (v2 != u2) = false := by simp [hb]
            clear r2 hb
            clear hu hv hln
            go_upto_region 23 with (fail)
            go_quiet (fail)
            replace g := g.drewN nq
            have G := Lib.hid g
            clear g
            generalize (wr.drewN nq) = w7 at *
            go_wp2_with (fail)
            go_roundw
            case rel => exact ⟨k + 1, by go_num, by omega, G.out⟩
            case measure => simp [intOf]; omega
          · have e2 : (v2 != u2) = true := by simp [hb]
            have e3 : decide (0 ≤ v1) = false := by simp; omega
            have e4 : ¬ 0 ≤ v1 := by omega
            clear r2 hb
            clear hu hv hln
            go_upto_region 23 with (fail)
            go_quiet (fail)
            replace g := g.drewN nq
            have G := Lib.hid g
            clear g
            generalize (wr.drewN nq) = w7 at *
            go_wp2_with (fail)
            go_roundw
            case rel => exact ⟨k + 1, by go_num, by omega, G.out⟩
            case measure => simp [intOf]; omega
        · have i1 : ¬ (k : Int) < (A.length : Int) := by omega
          have G := Lib.hid g
          clear g
          replace G := Lib.hid G.out.tail
          have g := G.out
          clear G
          obtain ⟨s0, s1, s2⟩ := bk_cells (g.blk (.head _))
          go_upto_region 29 with (first | (go_at_call 6; (with_reducible refine (bins_at g HZ.out hcd4' i4 HSZ.out.2.symm k1 (g.intIn 2 rfl HS0.out.1) HBF.out HBA.out.2.2.2).mono ?_); rintro e w11 ⟨gd, cd2, rfl, h11⟩; clear g s0 s1 s2))
          have H11 := Lib.hid h11
          clear h11
          go_wp2_with (fail)
          go_loopw [13] (fun ii wr => ∃ k : Nat, ii = .int .i64 (k : Int) ∧ k ≤ A.length ∧ Hp W wr (aBn (.slice (some ⟨gd, 0, none⟩) D.length cd2) D :: aSl 3 1 (.slice (some ⟨gt, 0, none⟩) S cpt) S (((List.range S).map fn).map (.int .i64)) :: [aBn (.slice (some ⟨ga, 0, none⟩) A.length ca2) A, aSl 3 1 (.slice (some ⟨g1, 0, none⟩) S c1) S (((List.range S).map f).map (.int .i64))]) ((p, bkO (cm : Int) im (.slice (some ⟨g1, 0, none⟩) S c1)) :: [])) (fun ii _ => A.length - (intOf ii).toNat)
          case atStart => exact ⟨0, rfl, by omega, H11.out⟩
          case round =>
            obtain ⟨k, rfl, hk, g⟩ := hrel
            clear H11
            have kw : IntKind.i64.wrap ((k : Int) + 1) = (k : Int) + 1 := by have := HA.out; rw [IntKind.wrap_i64]; omega
            have k0 : (0 : Int) ≤ (k : Int) := by omega
            by_cases hkA : k < A.length
            · have i1 : (k : Int) < (A.length : Int) := by omega
              obtain ⟨⟨u1, u2⟩, hu⟩ : ∃ b, A.getD k (0, 0) = b := ⟨_, rfl⟩
              obtain ⟨⟨v1, v2⟩, hv⟩ : ∃ b, D.getD k (0, 0) = b := ⟨_, rfl⟩
              have hrl := HAD.out.get k hkA
              rw [hu, hv] at hrl
              obtain ⟨r1, r2⟩ := hrl
              obtain ⟨x1, x2⟩ := bn_cell g 2 rfl hkA hu
              obtain ⟨y1, y2⟩ := bn_cell g 0 rfl (by have := HAD.out.length; omega) hv
              have hln := HAD.out.length
              have i2 : (k : Int) < (D.length : Int) := by omega
              simp only at r1 r2
              subst r1
              have e1 : (v2 != v2) = false := by simp
              obtain ⟨nb, hnb⟩ : ∃ b, decide (u1 < 0) = b := ⟨_, rfl⟩
              have hnb2 : decide (v1 < 0) = nb := by rw [← hnb]; exact decide_eq_decide.2 r2
              have e2 : (nb != nb) = false := by simp
              clear r2
              clear hu hv hln
              go_upto_region 32 with (fail)
              go_quiet (fail)
              replace g := g.drewN nq
              have G := Lib.hid g
              clear g
              generalize (wr.drewN nq) = w7 at *
              go_wp2_with (fail)
              go_roundw
              case rel => exact ⟨k + 1, by go_num, by omega, G.out⟩
              case measure => simp [intOf]; omega
            · have i1 : ¬ (k : Int) < (A.length : Int) := by omega
              have G := Lib.hid g
              clear g
              go_wp2_with (first | (go_at_call 8; (with_reducible refine (alive28 G.out HZ.out).mono ?_); rintro e w12 ⟨rfl, h12⟩))
              exact bodyPost_ret (results_tmp rfl _ _ _) rfl ⟨rfl, h12.below⟩
end Go.Proofs.YtchoiimmcgkimaaDoor
