/- ABlockApart. -/
import Derived.Test.YtchoiimmcgkimaaDoorJg
namespace Go.Proofs.YtchoiimmcgkimaaDoor
open Go.RowKit Go.Shelf
set_option linter.unusedVariables false
set_option maxRecDepth 100000
set_option linter.unusedSimpArgs false

theorem lk_congr {f g : Nat → Int} {n : Nat} (h : ∀ i, i < n → f i = g i) : lk f n = lk g n := lk_eq fun i hi => by rw [h i hi]
theorem rm_congr {f g : Nat → Int} : ∀ {n : Nat}, (∀ i, i < n → f i = g i) → rm f n = rm g n
  | 0, _ => rfl
  | n + 1, h => by unfold rm; rw [rm_congr fun i hi => h i (by omega), h n (by omega)]
theorem blk_congr {cat inc : Int} {n : Nat} {f g : Nat → Int} (h : ∀ i, i < n → f i = g i) : blkB cat inc n f = blkB cat inc n g := by
  have hl := lk_le g n
  unfold blkB blkT
  rw [lk_congr h, rm_congr (n := lk g n) (f := f) (g := g) (fun i hi => h i (by omega)), mpB_eq (f := f) (g := g) (m' := lk g n) (fun i hi => by rw [h i (by omega)]) (fun i hi _ => Iff.rfl)]
theorem ap_at {A B : List (Int × Int)} (h : Ap A B) {k : Nat} (h1 : k < A.length) (h2 : k < B.length) (hq : ∀ j, j < k → A.getD j (0, 0) = B.getD j (0, 0)) (hd : A.getD k (0, 0) ≠ B.getD k (0, 0)) : (A.getD k (0, 0)).1 = (B.getD k (0, 0)).1 := by
  obtain ⟨i, i1, i2, i3, i4, i5⟩ := h
  rcases Nat.lt_trichotomy k i with c | c | c
  · exact absurd (i3 k c) hd
  · subst c; exact i4
  · exact absurd (by rw [hq i c]) i5
theorem ap_not {A B : List (Int × Int)} (h : Ap A B) {k : Nat} (h1 : A.length ≤ k ∨ B.length ≤ k) : ¬ ∀ j, j < k → A.getD j (0, 0) = B.getD j (0, 0) := by
  obtain ⟨i, i1, i2, i3, i4, i5⟩ := h
  intro hq
  exact i5 (by rw [hq i (by omega)])
section
variable {W w : World} {L : List AObj} {F : List (Nat × Obj)}
theorem bins_at (h : Hp W w L F) (hz : SzIn W) {ca : Nat} (hca : ca ≤ 4) {inc : Int} (h0 : 0 ≤ inc ∧ inc ≤ 3) {n c g0 o0 : Nat} {f : Nat → Int} (hn : n = szK ca) (hcn : n ≤ c) (hI : IntIn w n g0 o0 f) (hf : ∀ i, i < n → (f i).natAbs ≤ 32768) {B : List (Int × Int)} (hB : blkB (ca : Int) inc n f = B) :
    Calls Tryd.prog 6 #[.int .u8 (ca : Int), .int .i64 inc, .slice (some ⟨g0, o0, none⟩) n c] w fun e w' => ∃ g cap, e = .returned (.tuple #[.slice (some ⟨g, 0, none⟩) B.length cap, .int .i64 0]) ∧ Hp W w' (aBn (.slice (some ⟨g, 0, none⟩) B.length cap) B :: L) F := by
  refine (bins_hp h hz hca h0 hn hcn hI hf hB).mono ?_
  rintro e w' ⟨sp, cap, rfl, h2⟩
  obtain ⟨g, c', hs⟩ := sl_pos (h2.sl 0 rfl) (by rw [← hB]; simp [blkB])
  injection hs with e1 e2 e3
  subst e1
  exact ⟨g, cap, rfl, h2⟩
theorem bn_cell (h : Hp W w L F) (k : Nat) {g c : Nat} {B : List (Int × Int)} (hk : L[k]? = some (aBn (.slice (some ⟨g, 0, none⟩) B.length c) B)) {i : Nat} (hi : i < B.length) {a b : Int} (hb : B.getD i (0, 0) = (a, b)) : w.cell? ⟨g, i * 2, none⟩ = some (.int .i64 a) ∧ w.cell? ⟨g, i * 2 + 1, none⟩ = some (.int .u8 b) := by
  have hx : B[i]? = some (a, b) := by rw [← hb, List.getD_eq_getElem?_getD, List.getElem?_eq_getElem hi]; rfl
  obtain ⟨q1, q2⟩ := bcs_at B i _ hx
  exact ⟨h.sl_at k hk q1, h.sl_at k hk q2⟩
theorem eqi_hp (h : Hp W w L F) (j k : Nat) {g1 c1 g2 c2 S : Nat} {f1 f2 : Nat → Int} (hj : L[j]? = some (aSl 3 1 (.slice (some ⟨g1, 0, none⟩) S c1) S (((List.range S).map f1).map (.int .i64)))) (hk : L[k]? = some (aSl 3 1 (.slice (some ⟨g2, 0, none⟩) S c2) S (((List.range S).map f2).map (.int .i64)))) (hS : 0 < S ∧ S ≤ 16) {r : Bool} (hr : r = true ↔ ∀ i, i < S → f1 i = f2 i) :
    Calls Tryd.prog 9 #[.slice (some ⟨g1, 0, none⟩) S c1, .slice (some ⟨g2, 0, none⟩) S c2] w fun e w' => e = .returned (.bool r) ∧ Hp W w' L F :=
  (eqi_any (h.intIn j hj hS.1) (h.intIn k hk hS.1) (by omega) hr).mono fun _ _ ⟨he, x, hw⟩ => ⟨he, by subst hw; exact h.drewN x⟩
end

set_option maxHeartbeats 8000000 in
theorem apart_walk {W : World} (hz : SzIn W) {ca : Nat} (hca : ca < 256) {inc : Int} (hinc : In64 inc) {sp : Option Addr} {n c ga0 o0 : Nat} {X : Nat → Int} (hX : InA W sp n ga0 o0 X) (hn : n ≤ maxLen) {sq : Option Addr} {m d gb0 o1 : Nat} {Y : Nat → Int} (hY : InA W sq m gb0 o1 Y) (hm : m ≤ maxLen) :
    Calls Tryd.prog 4 #[.agg #[.int .u8 (ca : Int), .int .i64 inc, .slice sp n c], .slice sq m d] W fun e w' => e = .returned (.bool true) ∧ Below W.heap.size W w' := by
  obtain ⟨cm, hcm⟩ : ∃ x, ca % 5 = x := ⟨_, rfl⟩
  obtain ⟨im, him⟩ : ∃ x, inc % 4 = x := ⟨_, rfl⟩
  obtain ⟨S, hS⟩ : ∃ x, szK cm = x := ⟨_, rfl⟩
  have c4 : cm ≤ 4 := by omega
  have i4 : 0 ≤ im ∧ im ≤ 3 := by omega
  have HS0 := Lib.hid (show 0 < S ∧ S ≤ 16 by rw [← hS]; have := szK_pos c4; have := szK_le cm; omega)
  obtain ⟨f1, hf1⟩ : ∃ f, fitF n X = f := ⟨_, rfl⟩
  obtain ⟨f2, hf2⟩ : ∃ f, fitF m Y = f := ⟨_, rfl⟩
  have b1 : ∀ i, (f1 i).natAbs ≤ 32768 := fun i => by rw [← hf1]; exact fitF_le _ _ _
  have b2 : ∀ i, (f2 i).natAbs ≤ 32768 := fun i => by rw [← hf2]; exact fitF_le _ _ _
  obtain ⟨A, hA⟩ : ∃ A, blkB (cm : Int) im S f1 = A := ⟨_, rfl⟩
  obtain ⟨B, hB⟩ : ∃ B, blkB (cm : Int) im S f2 = B := ⟨_, rfl⟩
  obtain ⟨r, hr⟩ : ∃ r : Bool, (r = true ↔ ∀ i, i < S → f1 i = f2 i) := by
    by_cases h : ∀ i, i < S → f1 i = f2 i
    · exact ⟨true, Iff.intro (fun _ => h) (fun _ => rfl)⟩
    · exact ⟨false, Iff.intro (fun e => by cases e) (fun e => absurd e h)⟩
  have hAP : r = false → Ap A B := fun h => by
    rw [← hA, ← hB]
    refine blk_apart b1 b2 ?_
    rcases Classical.em (∃ i, i < S ∧ f1 i ≠ f2 i) with h' | h'
    · exact h'
    · have := hr.2 (fun i hi => Classical.byContradiction fun e => h' ⟨i, hi, e⟩)
      rw [h] at this; cases this
  have hAB : r = true → A = B := fun h => by rw [← hA, ← hB]; exact blk_congr (hr.1 h)
  have HF1 := Lib.hid hf1
  have HF2 := Lib.hid hf2
  have HBA := Lib.hid (And.intro (show ∀ i, i < S → (f1 i).natAbs ≤ 32768 from fun i _ => b1 i) hA)
  have HBB := Lib.hid (And.intro (show ∀ i, i < S → (f2 i).natAbs ≤ 32768 from fun i _ => b2 i) hB)
  have HEQ := Lib.hid hr
  have HA := Lib.hid (show A.length ≤ 6000 by rw [← hA]; exact (blk_len b1 (by have := HS0.out; omega)).1)
  have HSZ := Lib.hid hS
  have HZ := Lib.hid hz
  have HXA := Lib.hid (And.intro hX hn)
  have HYA := Lib.hid (And.intro hY hm)
  have HC := Lib.hid (And.intro hca (And.intro hinc (And.intro hcm him)))
  have HC2 := Lib.hid (show cm < 256 ∧ In64 im ∧ cm % 5 = cm ∧ im % 4 = im from ⟨by omega, ⟨by omega, by omega⟩, by omega, by omega⟩)
  have H0 := Lib.hid ((Hp.start W).alloc (bkO (ca : Int) inc (.slice sp n c)))
  obtain ⟨p, hp⟩ : ∃ p, W.heap.size = p := ⟨_, rfl⟩
  have HAPh := Lib.hid hAP
  have HABh := Lib.hid hAB
  clear hz hX hn hY hm hcm him hS hf1 hf2 b1 b2 hA hB hr hAP hAB hca hinc
  rw [hp] at H0
  go_enter Tryd.func4, Tryd.ntmps4
  go_upto_region 1 with (fail)
  obtain ⟨s0, s1, s2⟩ := bk_cells (H0.out.blk (.head _))
  have HP := Lib.hid hp
  clear hp
  have h0 := H0.out
  clear H0
  have hX1 := HXA.out.1.later h0.below
  have HX1 := Lib.hid (And.intro hX1 HXA.out.2)
  clear hX1
  generalize (W.alloc (.cells #[.int .u8 (ca : Int), .int .i64 inc, .slice sp n c] 24 (0, 0))) = w0 at *
  go_upto_region 2 with (first | (go_at_call 5; (with_reducible refine (fit_is h0 HZ.out HC.out.1 HC.out.2.1 HX1.out.1 HX1.out.2 HC.out.2.2.1 HC.out.2.2.2 HSZ.out HF1.out).mono ?_); rintro e w1 ⟨g1, c1, k1, rfl, h1⟩; clear h0 s0 s1 s2; obtain ⟨s0, s1, s2⟩ := bk_cells (h1.blk (.head _)); obtain ⟨f0, f1', f2'⟩ := bk_free (h1.blk (.head _))))
  have h2 : Hp W (((w1.setCell ⟨p, 0, none⟩ (.int .u8 (cm : Int))).setCell ⟨p, 1, none⟩ (.int .i64 im)).setCell ⟨p, 2, none⟩ (.slice (some ⟨g1, 0, none⟩) S c1)) _ ((p, bkO (cm : Int) im (.slice (some ⟨g1, 0, none⟩) S c1)) :: []) := ((h1.set 0 rfl 0 (.int .u8 (cm : Int))).set 0 rfl 1 (.int .i64 im)).set 0 rfl 2 (.slice (some ⟨g1, 0, none⟩) S c1)
  clear h1 s0 s1 s2 f0 f1' f2'
  generalize (((w1.setCell ⟨p, 0, none⟩ (.int .u8 (cm : Int))).setCell ⟨p, 1, none⟩ (.int .i64 im)).setCell ⟨p, 2, none⟩ (.slice (some ⟨g1, 0, none⟩) S c1)) = w2 at h2 ⊢
  obtain ⟨s0, s1, s2⟩ := bk_cells (h2.blk (.head _))
  have hY2 := HYA.out.1.later h2.below
  have HY2 := Lib.hid (And.intro hY2 HYA.out.2)
  clear hY2
  go_upto_region 3 with (first | (go_at_call 5; (with_reducible refine (fit_is h2 HZ.out HC2.out.1 HC2.out.2.1 HY2.out.1 HY2.out.2 HC2.out.2.2.1 HC2.out.2.2.2 HSZ.out HF2.out).mono ?_); rintro e w3 ⟨g2, c2, k2, rfl, h3⟩; clear h2 s0 s1 s2))
  have h4 := h3.alloc (bkO (cm : Int) im (.slice (some ⟨g2, 0, none⟩) S c2))
  clear h3
  generalize (w3.alloc (.cells #[.int .u8 (cm : Int), .int .i64 im, .slice (some ⟨g2, 0, none⟩) S c2] 24 (0, 0))) = w4 at h4 ⊢
  generalize w3.heap.size = q at *
  obtain ⟨s0, s1, s2⟩ := bk_cells (h4.blk (.tail _ (.head _)))
  obtain ⟨t0, t1, t2⟩ := bk_cells (h4.blk (.head _))
  go_upto_region 5 with (first | (go_at_call 6; (with_reducible refine (bins_at h4 HZ.out c4 i4 HSZ.out.symm k1 (h4.intIn 1 rfl HS0.out.1) HBA.out.1 HBA.out.2).mono ?_); rintro e w5 ⟨ga, ca2, rfl, h5⟩; clear h4 s0 s1 s2 t0 t1 t2; obtain ⟨t0, t1, t2⟩ := bk_cells (h5.blk (.head _))) | (go_at_call 6; (with_reducible refine (bins_at h5 HZ.out c4 i4 HSZ.out.symm k2 (h5.intIn 1 rfl HS0.out.1) HBB.out.1 HBB.out.2).mono ?_); rintro e w6 ⟨gb, cb, rfl, h6⟩; clear h5 t0 t1 t2))
  obtain ⟨LL, hLL⟩ : ∃ L : List AObj, L = [aBn (.slice (some ⟨gb, 0, none⟩) B.length cb) B, aBn (.slice (some ⟨ga, 0, none⟩) A.length ca2) A, aSl 3 1 (.slice (some ⟨g2, 0, none⟩) S c2) S (((List.range S).map f2).map (.int .i64)), aSl 3 1 (.slice (some ⟨g1, 0, none⟩) S c1) S (((List.range S).map f1).map (.int .i64))] := ⟨_, rfl⟩
  obtain ⟨FF, hFF⟩ : ∃ F : List (Nat × Obj), F = [(q, bkO (cm : Int) im (.slice (some ⟨g2, 0, none⟩) S c2)), (p, bkO (cm : Int) im (.slice (some ⟨g1, 0, none⟩) S c1))] := ⟨_, rfl⟩
  have HL := Lib.hid (show LL[0]? = some (aBn (.slice (some ⟨gb, 0, none⟩) B.length cb) B) ∧ LL[1]? = some (aBn (.slice (some ⟨ga, 0, none⟩) A.length ca2) A) ∧ LL[2]? = some (aSl 3 1 (.slice (some ⟨g2, 0, none⟩) S c2) S (((List.range S).map f2).map (.int .i64))) ∧ LL[3]? = some (aSl 3 1 (.slice (some ⟨g1, 0, none⟩) S c1) S (((List.range S).map f1).map (.int .i64))) by rw [hLL]; exact ⟨rfl, rfl, rfl, rfl⟩)
  have HF := Lib.hid (show (q, bkO (cm : Int) im (.slice (some ⟨g2, 0, none⟩) S c2)) ∈ FF ∧ (p, bkO (cm : Int) im (.slice (some ⟨g1, 0, none⟩) S c1)) ∈ FF by rw [hFF]; exact ⟨.head _, .tail _ (.head _)⟩)
  have H6 := Lib.hid (show Hp W w6 LL FF by rw [hLL, hFF]; simpa only [List.map_map] using h6)
  clear h6 hLL hFF
  go_wp2_with (fail)
  cases r with
  | true =>
    have HAB := Lib.hid (HABh.out rfl)
    go_loopw [10] (fun ii wr => ∃ k : Nat, ii = .int .i64 (k : Int) ∧ k ≤ A.length ∧ k ≤ B.length ∧ Hid (∀ j, j < k → A.getD j (0, 0) = B.getD j (0, 0)) ∧ Hp W wr LL FF) (fun ii _ => A.length - (intOf ii).toNat)
    case atStart => exact ⟨0, rfl, by omega, by omega, Lib.hid (fun j hj => by omega), H6.out⟩
    case round =>
      obtain ⟨k, rfl, hka, hkb, HQ, g⟩ := hrel
      clear H6
      have kw : IntKind.i64.wrap ((k : Int) + 1) = (k : Int) + 1 := by have := HA.out; rw [IntKind.wrap_i64]; omega
      have k0 : (0 : Int) ≤ (k : Int) := by omega
      by_cases h1 : k < A.length
      · have i1 : (k : Int) < (A.length : Int) := by omega
        have j1 : decide ((k : Int) < (A.length : Int)) = true := by simp; omega
        by_cases h2 : k < B.length
        · have i2 : (k : Int) < (B.length : Int) := by omega
          have j2 : decide ((k : Int) < (B.length : Int)) = true := by simp; omega
          obtain ⟨⟨u1, u2⟩, hu⟩ : ∃ b, A.getD k (0, 0) = b := ⟨_, rfl⟩
          obtain ⟨⟨v1, v2⟩, hv⟩ : ∃ b, B.getD k (0, 0) = b := ⟨_, rfl⟩
          obtain ⟨a1, a2⟩ := bn_cell g 1 HL.out.2.1 h1 hu
          obtain ⟨b1, b2⟩ := bn_cell g 0 HL.out.1 h2 hv
          have HU := Lib.hid (And.intro hu hv)
          have HK := Lib.hid (And.intro h1 h2)
          have hq := fun w => bin_eq u1 u2 v1 v2 w
          clear hu hv h1 h2
          by_cases hd : ((u1, u2) : Int × Int) = (v1, v2)
          · rw [decide_eq_true hd] at hq
            have HD := Lib.hid hd
            clear hd
            go_upto_region 10 with (fail)
            go_quiet (fail)
            replace g := g.drewN nq
            have G := Lib.hid g
            clear g
            generalize (wr.drewN nq) = w7 at *
            go_wp2_with (fail)
            go_roundw
            case rel => exact ⟨k + 1, by go_num, HK.out.1, HK.out.2, Lib.hid (fun j hj => by
              by_cases hjk : j < k
              · exact HQ.out j hjk
              · obtain rfl : j = k := by omega
                rw [HU.out.1, HU.out.2]; exact HD.out), G.out⟩
            case measure => have := HK.out.1; simp [intOf]; omega
          · rw [decide_eq_false hd] at hq
            exact absurd (HU.out.1.symm.trans ((show A.getD k (0, 0) = B.getD k (0, 0) by rw [HAB.out]).trans HU.out.2)) hd
        · have i2 : ¬ (k : Int) < (B.length : Int) := by omega
          have j2 : decide ((k : Int) < (B.length : Int)) = false := by simp; omega
          have HK := Lib.hid (And.intro (show k ≤ A.length ∧ k ≤ B.length by omega) (Or.inr (show B.length ≤ k by omega) : A.length ≤ k ∨ B.length ≤ k))
          have el : ((A.length : Int) == (B.length : Int)) = true := by rw [HAB.out]; simp
          have z1 := (bk_cells (g.blk HF.out.2)).2.2
          have z2 := (bk_cells (g.blk HF.out.1)).2.2
          clear HK
          go_wp2_with (first | (go_at_call 9; (with_reducible refine (eqi_hp g 3 2 HL.out.2.2.2 HL.out.2.2.1 HS0.out HEQ.out).mono ?_); rintro e w8 ⟨rfl, h8⟩) | (go_at_call 8; (with_reducible refine (alive28 h8 HZ.out).mono ?_); rintro e w9 ⟨rfl, h9⟩))
          exact bodyPost_ret (results_tmp rfl _ _ _) rfl ⟨rfl, h9.below⟩
      · have i1 : ¬ (k : Int) < (A.length : Int) := by omega
        have j1 : decide ((k : Int) < (A.length : Int)) = false := by simp; omega
        have HK := Lib.hid (And.intro (show k ≤ A.length ∧ k ≤ B.length by omega) (Or.inl (show A.length ≤ k by omega) : A.length ≤ k ∨ B.length ≤ k))
        have el : ((A.length : Int) == (B.length : Int)) = true := by rw [HAB.out]; simp
        have z1 := (bk_cells (g.blk HF.out.2)).2.2
        have z2 := (bk_cells (g.blk HF.out.1)).2.2
        clear HK
        go_wp2_with (first | (go_at_call 9; (with_reducible refine (eqi_hp g 3 2 HL.out.2.2.2 HL.out.2.2.1 HS0.out HEQ.out).mono ?_); rintro e w8 ⟨rfl, h8⟩) | (go_at_call 8; (with_reducible refine (alive28 h8 HZ.out).mono ?_); rintro e w9 ⟨rfl, h9⟩))
        exact bodyPost_ret (results_tmp rfl _ _ _) rfl ⟨rfl, h9.below⟩
  | false =>
    have HAP := Lib.hid (HAPh.out rfl)
    go_loopw [10] (fun ii wr => ∃ k : Nat, ii = .int .i64 (k : Int) ∧ k ≤ A.length ∧ k ≤ B.length ∧ Hid (∀ j, j < k → A.getD j (0, 0) = B.getD j (0, 0)) ∧ Hp W wr LL FF) (fun ii _ => A.length - (intOf ii).toNat)
    case atStart => exact ⟨0, rfl, by omega, by omega, Lib.hid (fun j hj => by omega), H6.out⟩
    case round =>
      obtain ⟨k, rfl, hka, hkb, HQ, g⟩ := hrel
      clear H6
      have kw : IntKind.i64.wrap ((k : Int) + 1) = (k : Int) + 1 := by have := HA.out; rw [IntKind.wrap_i64]; omega
      have k0 : (0 : Int) ≤ (k : Int) := by omega
      by_cases h1 : k < A.length
      · have i1 : (k : Int) < (A.length : Int) := by omega
        have j1 : decide ((k : Int) < (A.length : Int)) = true := by simp; omega
        by_cases h2 : k < B.length
        · have i2 : (k : Int) < (B.length : Int) := by omega
          have j2 : decide ((k : Int) < (B.length : Int)) = true := by simp; omega
          obtain ⟨⟨u1, u2⟩, hu⟩ : ∃ b, A.getD k (0, 0) = b := ⟨_, rfl⟩
          obtain ⟨⟨v1, v2⟩, hv⟩ : ∃ b, B.getD k (0, 0) = b := ⟨_, rfl⟩
          obtain ⟨a1, a2⟩ := bn_cell g 1 HL.out.2.1 h1 hu
          obtain ⟨b1, b2⟩ := bn_cell g 0 HL.out.1 h2 hv
          have HU := Lib.hid (And.intro hu hv)
          have HK := Lib.hid (And.intro h1 h2)
          have hq := fun w => bin_eq u1 u2 v1 v2 w
          clear hu hv h1 h2
          by_cases hd : ((u1, u2) : Int × Int) = (v1, v2)
          · rw [decide_eq_true hd] at hq
            have HD := Lib.hid hd
            clear hd
            go_upto_region 10 with (fail)
            go_quiet (fail)
            replace g := g.drewN nq
            have G := Lib.hid g
            clear g
            generalize (wr.drewN nq) = w7 at *
            go_wp2_with (fail)
            go_roundw
            case rel => exact ⟨k + 1, by go_num, HK.out.1, HK.out.2, Lib.hid (fun j hj => by
              by_cases hjk : j < k
              · exact HQ.out j hjk
              · obtain rfl : j = k := by omega
                rw [HU.out.1, HU.out.2]; exact HD.out), G.out⟩
            case measure => have := HK.out.1; simp [intOf]; omega
          · rw [decide_eq_false hd] at hq
            have hctx := ap_at HAP.out HK.out.1 HK.out.2 HQ.out (by rw [HU.out.1, HU.out.2]; exact hd)
            rw [HU.out.1, HU.out.2] at hctx
            obtain rfl : u1 = v1 := hctx
            have ee : (u1 == u1) = true := by simp
            clear hd
            go_upto_region 10 with (fail)
            go_quiet (fail)
            replace g := g.drewN nq
            clear a1 a2 b1 b2 hq
            generalize (wr.drewN nq) = w7 at *
            go_upto_region 11 with (fail)
            haveI : Nonempty (HpV W LL FF) := ⟨⟨_, g⟩⟩
            have x1 : ∀ x : HpV W LL FF, x.w.cell? ⟨p, 2, none⟩ = some (.slice (some ⟨g1, 0, none⟩) S c1) := fun x => (bk_cells (x.h.blk HF.out.2)).2.2
            have x2 : ∀ x : HpV W LL FF, x.w.cell? ⟨q, 2, none⟩ = some (.slice (some ⟨g2, 0, none⟩) S c2) := fun x => (bk_cells (x.h.blk HF.out.1)).2.2
            have y1 : ∀ x : HpV W LL FF, x.w.cell? ⟨ga, k * 2, none⟩ = some (.int .i64 u1) := fun x => (bn_cell x.h 1 HL.out.2.1 HK.out.1 HU.out.1).1
            have y2 : ∀ x : HpV W LL FF, x.w.cell? ⟨gb, k * 2, none⟩ = some (.int .i64 u1) := fun x => (bn_cell x.h 0 HL.out.1 HK.out.2 HU.out.2).1
            have HG := Lib.hid g
            clear g
            refine wp_region_hv HG.out (by kernel_rfl) (by kernel_rfl) ?_
            repeat (go_big_quiet_step ((first | (go_at_call 9; with_reducible exact HpV.call (eqi_hp (HpV.h _) 3 2 HL.out.2.2.2 HL.out.2.2.1 HS0.out HEQ.out)) | (go_at_call 8; with_reducible exact HpV.call (alive28 (HpV.h _) HZ.out)))))
            refine wpQuiet_nil ?_
            rintro _ ⟨⟨wq, hq⟩, rfl⟩
            go_wp2_with (fail)
            exact bodyPost_ret (results_tmp rfl _ _ _) rfl ⟨rfl, hq.below⟩
        · have i2 : ¬ (k : Int) < (B.length : Int) := by omega
          have j2 : decide ((k : Int) < (B.length : Int)) = false := by simp; omega
          have HK := Lib.hid (And.intro (show k ≤ A.length ∧ k ≤ B.length by omega) (Or.inr (show B.length ≤ k by omega) : A.length ≤ k ∨ B.length ≤ k))
          exact absurd HQ.out (ap_not HAP.out HK.out.2)
      · have i1 : ¬ (k : Int) < (A.length : Int) := by omega
        have j1 : decide ((k : Int) < (A.length : Int)) = false := by simp; omega
        have HK := Lib.hid (And.intro (show k ≤ A.length ∧ k ≤ B.length by omega) (Or.inl (show A.length ≤ k by omega) : A.length ≤ k ∨ B.length ≤ k))
        exact absurd HQ.out (ap_not HAP.out HK.out.2)
end Go.Proofs.YtchoiimmcgkimaaDoor
