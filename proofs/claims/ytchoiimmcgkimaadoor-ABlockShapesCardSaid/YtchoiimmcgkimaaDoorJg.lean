/- Fit. -/
import Derived.Test.YtchoiimmcgkimaaDoorJf
namespace Go.Proofs.YtchoiimmcgkimaaDoor
open Go.RowKit Go.Shelf
set_option linter.unusedVariables false
set_option maxRecDepth 100000
set_option linter.unusedSimpArgs false

@[reducible] def In64 (n : Int) : Prop := -9223372036854775808 ≤ n ∧ n < 9223372036854775808
/-- A slice that reads as integers; nil too. -/
structure InA (w : World) (sp : Option Addr) (n g o : Nat) (A : Nat → Int) : Prop where
  at_ : 0 < n → sp = some ⟨g, o, none⟩ ∧ g < w.heap.size
  cell : ∀ i, i < n → w.cell? ⟨g, o + i, none⟩ = some (.int .i64 (A i))
  wf : ∀ i, i < n → In64 (A i)
theorem InA.later {w w' : World} {sp : Option Addr} {n g o : Nat} {A : Nat → Int} (h : InA w sp n g o A) (hb : Below w.heap.size w w') : InA w' sp n g o A :=
  ⟨fun h0 => ⟨(h.at_ h0).1, Nat.lt_of_lt_of_le (h.at_ h0).2 hb.size⟩, fun i hi => (hb.cell (p := ⟨g, o + i, none⟩) (h.at_ (by omega)).2).trans (h.cell i hi), h.wf⟩
def fitF (n : Nat) (A : Nat → Int) (i : Nat) : Int := if i < n then IntKind.i64.wrap (A i + 32768) % 65537 - 32768 else 0
theorem fitF_le (n : Nat) (A : Nat → Int) (i : Nat) : (fitF n A i).natAbs ≤ 32768 := by unfold fitF; split <;> omega
theorem fit_next (f : Nat → Int) (k : Nat) : (((List.range (k + 1)).map f).map (Value.int .i64)) = ((List.range k).map f).map (Value.int .i64) ++ [.int .i64 (f k)] := by
  rw [List.range_succ, List.map_append, List.map_append]; rfl
@[reducible] def bkO (ca inc : Int) (v : Value) : Obj := .cells #[.int .u8 ca, .int .i64 inc, v] 24 (0, 0)
theorem bk_cells {w : World} {b : Nat} {ca inc : Int} {v : Value} (h : w.heap[b]? = some (bkO ca inc v)) : w.cell? ⟨b, 0, none⟩ = some (.int .u8 ca) ∧ w.cell? ⟨b, 1, none⟩ = some (.int .i64 inc) ∧ w.cell? ⟨b, 2, none⟩ = some v := by
  refine ⟨?_, ?_, ?_⟩ <;> simp [World.cell?, h]
theorem bk_free {w : World} {b : Nat} {ca inc : Int} {v : Value} (h : w.heap[b]? = some (bkO ca inc v)) : w.frozen? ⟨b, 0, none⟩ = false ∧ w.frozen? ⟨b, 1, none⟩ = false ∧ w.frozen? ⟨b, 2, none⟩ = false := by
  refine ⟨?_, ?_, ?_⟩ <;> simp [World.frozen?, h]
theorem bk_load {w : World} {b : Nat} {ca inc : Int} {sp : Option Addr} {n c : Nat} (h : w.heap[b]? = some (bkO ca inc (.slice sp n c))) : (loadVar 24 ⟨b, 0, none⟩).run Tryd.prog w = .ok (.agg #[.int .u8 ca, .int .i64 inc, .slice sp n c]) w := by
  obtain ⟨s0, s1, s2⟩ := bk_cells h
  clear h
  go_simp

set_option maxHeartbeats 4000000 in
theorem fit_any {w : World} (hz : SzIn w) {ca : Nat} (hca : ca < 256) {inc : Int} (hinc : In64 inc) {sp : Option Addr} {n c g0 o0 : Nat} {A : Nat → Int} (hA : InA w sp n g0 o0 A) (hn : n ≤ maxLen) {cm S : Nat} {im : Int} (hcm : ca % 5 = cm) (him : inc % 4 = im) (hS : szK cm = S) :
    Calls Tryd.prog 5 #[.agg #[.int .u8 (ca : Int), .int .i64 inc, .slice sp n c]] w fun e w' => ∃ gl cl, S ≤ cl ∧ e = .returned (.agg #[.int .u8 (cm : Int), .int .i64 im, .slice (some ⟨gl, 0, none⟩) S cl]) ∧ Hp w w' [aSl 3 1 (.slice (some ⟨gl, 0, none⟩) S cl) S (((List.range S).map (fitF n A)).map (.int .i64))] [] := by
  obtain ⟨j0, hj, hj0, hj1, hj2⟩ := int_info
  have hcm4 : cm ≤ 4 := by omega
  have S16 : S ≤ 16 := by rw [← hS]; exact szK_le _
  have S4 : 4 ≤ S := by rw [← hS]; exact szK_pos hcm4
  have HZ := Lib.hid hz
  have HA := Lib.hid hA
  have HS := Lib.hid hS
  have HI := Lib.hid (And.intro hinc him)
  have cm1 : (ca : Int) % 5 = (cm : Int) := by omega
  have cm2 : Int.tmod (ca : Int) 5 = (cm : Int) := by rw [Int.tmod_eq_emod_of_nonneg (by omega)]; omega
  have cm3 : IntKind.u8.wrap (cm : Int) = (cm : Int) := by rw [IntKind.wrap_u8]; omega
  have hn63 : n ≤ 9223372036854775807 := by unfold maxLen at hn; omega
  have hb0 : Hp w ((w.alloc (bkO (ca : Int) inc (.slice sp n c))).alloc (bkO 0 0 (.slice none 0 0))) [] ((w.heap.size + 1, bkO 0 0 (.slice none 0 0)) :: (w.heap.size, bkO (ca : Int) inc (.slice sp n c)) :: []) := by
    have := ((Hp.start w).alloc (bkO (ca : Int) inc (.slice sp n c))).alloc (bkO 0 0 (.slice none 0 0))
    simpa using this
  have H0 := Lib.hid hb0
  clear hz hA hS hinc him hn hcm hb0
  go_enter Tryd.func5, Tryd.ntmps5
  go_upto_region 1 with (fail)
  have h1 := H0.out
  clear H0
  generalize ((w.alloc (.cells #[.int .u8 (ca : Int), .int .i64 inc, .slice sp n c] 24 (0, 0))).alloc (.cells #[.int .u8 0, .int .i64 0, .slice none 0 0] 24 (0, 0))) = w1 at h1 ⊢
  generalize w.heap.size = p at *
  obtain ⟨s0, s1, s2⟩ := bk_cells (h1.blk (.tail _ (.head _)))
  obtain ⟨f0, f1, f2⟩ := bk_free (h1.blk (.tail _ (.head _)))
  have h2 : Hp w ((w1.setCell ⟨p, 0, none⟩ (.int .u8 (cm : Int))).setCell ⟨p, 1, none⟩ (.int .i64 im)).drew [] ((p + 1, bkO 0 0 (.slice none 0 0)) :: (p, bkO (cm : Int) im (.slice sp n c)) :: []) := ((h1.set 1 rfl 0 (.int .u8 (cm : Int))).set 1 rfl 1 (.int .i64 im)).drew
  have H2 := Lib.hid h2
  clear h1 h2
  go_cut [2] from 8 (fun t2 wx => t2 = .pointer (some ⟨p + 1, 0, none⟩) ∧ Hp w wx [] ((p + 1, bkO 0 0 (.slice none 0 0)) :: (p, bkO (cm : Int) im (.slice sp n c)) :: []))
  case first =>
    go_region_with (first | (go_at_call 10; (with_reducible refine (rest28_is (by decide) HI.out.1 HI.out.2 _).mono ?_); rintro e wx ⟨rfl, rfl⟩))
    all_goals (go_wp2_with (fail); go_meet; exact ⟨rfl, H2.out⟩)
  case rest =>
    obtain ⟨rfl, h3⟩ := hcut
    clear H2 s0 s1 s2 f0 f1 f2
    obtain ⟨s0, s1, s2⟩ := bk_cells (h3.blk (.tail _ (.head _)))
    have hzz := HZ.out.later h3.below HZ.out.pos
    have HZ3 := Lib.hid hzz
    have h4 := h3.sl_nil 3 1
    have H4 := Lib.hid h4
    clear h3 h4 hzz
    go_wp2_with (first | (go_at_call 11; (with_reducible refine (size_is HZ3.out hcm4 HS.out).mono ?_); rintro e w1 ⟨rfl, rfl⟩))
    clear s0 s1 s2
    go_loopw [5, 6] (fun lv ii wr => ∃ k : Nat, ii = .int .i64 (k : Int) ∧ k ≤ S ∧ Hp w wr (aSl 3 1 lv k (((List.range k).map (fitF n A)).map (.int .i64)) :: []) ((p + 1, bkO 0 0 (.slice none 0 0)) :: (p, bkO (cm : Int) im (.slice sp n c)) :: [])) (fun _ ii _ => S - (intOf ii).toNat)
    case atStart => exact ⟨0, rfl, by omega, H4.out⟩
    case round =>
      obtain ⟨k, rfl, hk, g⟩ := hrel
      clear H4
      obtain ⟨s0, s1, s2⟩ := bk_cells (g.blk (.tail _ (.head _)))
      obtain ⟨spl, cpl, rfl, _, _⟩ := g.sl_form 0 at0
      have kw : IntKind.i64.wrap ((k : Int) + 1) = (k : Int) + 1 := by rw [IntKind.wrap_i64]; omega
      by_cases hkS : k < S
      · by_cases hkn : k < n
        · obtain ⟨e0, e1⟩ := HA.out.at_ (by omega)
          have q1 := (g.below.cell (p := ⟨g0, o0 + k, none⟩) e1).trans (HA.out.cell k hkn)
          subst e0
          obtain ⟨a, ha⟩ : ∃ a, A k = a := ⟨_, rfl⟩
          obtain ⟨q, hq⟩ : ∃ q, IntKind.i64.wrap (a + 32768) = q := ⟨_, rfl⟩
          have hqb : In64 q := by rw [← hq, IntKind.wrap_i64]; unfold In64; omega
          obtain ⟨y, hy⟩ : ∃ y, q % 65537 = y := ⟨_, rfl⟩
          have yb : 0 ≤ y ∧ y < 65537 := by omega
          have yw : IntKind.i64.wrap (y - 32768) = y - 32768 := by rw [IntKind.wrap_i64]; omega
          have HV := Lib.hid (show fitF n A k = y - 32768 by unfold fitF; rw [if_pos hkn, ha, hq, hy])
          have HY := Lib.hid (And.intro hqb hy)
          rw [ha] at q1
          have k0 : (0 : Int) ≤ (k : Int) := by omega
          have k1 : (k : Int) < (n : Int) := by omega
          clear ha hqb hy yb
          go_wp2_with (first | (go_at_call 10; (with_reducible refine (rest28_is (by decide) HY.out.1 HY.out.2 _).mono ?_); rintro e wx ⟨rfl, rfl⟩) | (at_builtin; refine wpList_append_hp rfl _ _ 22 rfl 3 j0 (.int .i64 0) 1 8 Tryd.underlying22 hj hj0 hj1 hj2 rfl (by decide) (g.lost _) 0 at0 rfl ⟨wr.heap.size, 0, none⟩ 1 1 [.int .i64 (y - 32768)] rfl ?c0 ?c1 ?c2 ?c3 ?c4 ?_))
          try (case c0 => rfl)
          try (case c1 => exact int_new _ _ _)
          case c2 => first | rfl | (intro u hu; simp at hu; subst hu; rfl)
          case c3 => unfold maxLen; omega
          case c4 => omega
          intro v2 w2 h2
          try simp only [set0] at h2
          go_wp2_with (fail)
          go_roundw
          case rel =>
            refine ⟨k + 1, by go_num, by omega, ?_⟩
            have e := fit_next (fitF n A) k
            rw [HV.out] at e
            rw [e]
            simpa only [List.map_map] using h2
          case measure => simp [intOf]; omega
        · have k1 : ¬ (k : Int) < (n : Int) := by omega
          have HV := Lib.hid (show fitF n A k = 0 by unfold fitF; rw [if_neg hkn])
          go_wp2_with (first | (at_builtin; refine wpList_append_hp rfl _ _ 22 rfl 3 j0 (.int .i64 0) 1 8 Tryd.underlying22 hj hj0 hj1 hj2 rfl (by decide) (g.lost _) 0 at0 rfl ⟨wr.heap.size, 0, none⟩ 1 1 [.int .i64 0] rfl ?c0 ?c1 ?c2 ?c3 ?c4 ?_))
          try (case c0 => rfl)
          try (case c1 => exact int_new _ _ _)
          case c2 => first | rfl | (intro u hu; simp at hu; subst hu; rfl)
          case c3 => unfold maxLen; omega
          case c4 => omega
          intro v2 w2 h2
          try simp only [set0] at h2
          go_wp2_with (fail)
          go_roundw
          case rel =>
            refine ⟨k + 1, by go_num, by omega, ?_⟩
            have e := fit_next (fitF n A) k
            rw [HV.out] at e
            rw [e]
            simpa only [List.map_map] using h2
          case measure => simp [intOf]; omega
      · obtain rfl : S = k := by omega
        obtain ⟨gl, cl, hsp⟩ := sl_pos (g.sl 0 rfl) (by omega)
        injection hsp with h1 h2 h3
        subst h1 h3
        have hcl : S ≤ cpl := by
          rcases (g.sl 0 rfl).2 with ⟨e, _⟩ | ⟨_, _, _, e, _, _, e2, _⟩
          · cases e
          · injection e with _ _ e3; omega
        obtain ⟨f0, f1, f2⟩ := bk_free (g.blk (.tail _ (.head _)))
        have g2 : Hp w (wr.setCell ⟨p, 2, none⟩ (.slice (some ⟨gl, 0, none⟩) S cpl)) _ ((p + 1, bkO 0 0 (.slice none 0 0)) :: (p, bkO (cm : Int) im (.slice (some ⟨gl, 0, none⟩) S cpl)) :: []) := g.set 1 rfl 2 _
        clear g
        go_upto_region 12 with (fail)
        generalize (wr.setCell ⟨p, 2, none⟩ (.slice (some ⟨gl, 0, none⟩) S cpl)) = w12 at g2 ⊢
        clear s0 s1 s2 f0 f1 f2
        obtain ⟨s0, s1, s2⟩ := bk_cells (g2.blk (.tail _ (.head _)))
        obtain ⟨f0, f1, f2⟩ := bk_free (g2.blk (.head _))
        obtain ⟨r0, r1, r2⟩ := bk_cells (g2.blk (.head _))
        have g3 : Hp w (((w12.setCell ⟨p + 1, 0, none⟩ (.int .u8 (cm : Int))).setCell ⟨p + 1, 1, none⟩ (.int .i64 im)).setCell ⟨p + 1, 2, none⟩ (.slice (some ⟨gl, 0, none⟩) S cpl)) _ ((p + 1, bkO (cm : Int) im (.slice (some ⟨gl, 0, none⟩) S cpl)) :: (p, bkO (cm : Int) im (.slice (some ⟨gl, 0, none⟩) S cpl)) :: []) := ((g2.set 0 rfl 0 (.int .u8 (cm : Int))).set 0 rfl 1 (.int .i64 im)).set 0 rfl 2 (.slice (some ⟨gl, 0, none⟩) S cpl)
        have G3 := Lib.hid (And.intro (bk_load (g3.blk (.head _))) g3.drop.drop)
        clear g2 g3
        go_wp2_with (fail)
        exact bodyPost_ret (results_cellJ rfl rfl G3.out.1) rfl ⟨gl, cpl, hcl, rfl, by simpa only [List.map_map] using G3.out.2⟩
theorem fit_hp {W w : World} {L : List AObj} {F : List (Nat × Obj)} (h : Hp W w L F) (hz : SzIn W) {ca : Nat} (hca : ca < 256) {inc : Int} (hinc : In64 inc) {sp : Option Addr} {n c g0 o0 : Nat} {A : Nat → Int} (hA : InA w sp n g0 o0 A) (hn : n ≤ maxLen) {cm S : Nat} {im : Int} (hcm : ca % 5 = cm) (him : inc % 4 = im) (hS : szK cm = S) :
    Calls Tryd.prog 5 #[.agg #[.int .u8 (ca : Int), .int .i64 inc, .slice sp n c]] w fun e w' => ∃ gl cl, S ≤ cl ∧ e = .returned (.agg #[.int .u8 (cm : Int), .int .i64 im, .slice (some ⟨gl, 0, none⟩) S cl]) ∧ Hp W w' (aSl 3 1 (.slice (some ⟨gl, 0, none⟩) S cl) S (((List.range S).map (fitF n A)).map (.int .i64)) :: L) F :=
  (fit_any (hz.later h.below hz.pos) hca hinc hA hn hcm him hS).mono fun e w' ⟨gl, cl, h1, he, h2⟩ => ⟨gl, cl, h1, he, h.lift h2⟩
theorem fit_is {W w : World} {L : List AObj} {F : List (Nat × Obj)} (h : Hp W w L F) (hz : SzIn W) {ca : Nat} (hca : ca < 256) {inc : Int} (hinc : In64 inc) {sp : Option Addr} {n c g0 o0 : Nat} {A : Nat → Int} (hA : InA w sp n g0 o0 A) (hn : n ≤ maxLen) {cm S : Nat} {im : Int} (hcm : ca % 5 = cm) (him : inc % 4 = im) (hS : szK cm = S) {f : Nat → Int} (hf : fitF n A = f) :
    Calls Tryd.prog 5 #[.agg #[.int .u8 (ca : Int), .int .i64 inc, .slice sp n c]] w fun e w' => ∃ gl cl, S ≤ cl ∧ e = .returned (.agg #[.int .u8 (cm : Int), .int .i64 im, .slice (some ⟨gl, 0, none⟩) S cl]) ∧ Hp W w' (aSl 3 1 (.slice (some ⟨gl, 0, none⟩) S cl) S (((List.range S).map f).map (.int .i64)) :: L) F := by
  subst hf
  exact fit_hp h hz hca hinc hA hn hcm him hS
/-- An object of integers, read. -/
theorem Hp.intIn {W w : World} {L : List AObj} {F : List (Nat × Obj)} (h : Hp W w L F) (k : Nat) {g S c : Nat} {f : Nat → Int} (hk : L[k]? = some (aSl 3 1 (.slice (some ⟨g, 0, none⟩) S c) S (((List.range S).map f).map (.int .i64)))) (hS : 0 < S) : IntIn w S g 0 f := by
  have hc : ∀ i, i < S → w.cell? ⟨g, i, none⟩ = some (.int .i64 (f i)) := fun i hi => h.sl_at k hk (by rw [List.getElem?_map, List.getElem?_map, List.getElem?_range hi]; rfl)
  refine ⟨?_, fun i hi => by rw [Nat.zero_add]; exact hc i hi⟩
  have := hc 0 hS
  rcases Nat.lt_or_ge g w.heap.size with h' | h'
  · exact h'
  · simp [World.cell?, Array.getElem?_eq_none h'] at this
end Go.Proofs.YtchoiimmcgkimaaDoor
