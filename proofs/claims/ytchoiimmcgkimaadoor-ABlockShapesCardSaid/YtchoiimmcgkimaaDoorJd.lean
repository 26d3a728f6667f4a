/- Bins of a block. -/
import Derived.Test.YtchoiimmcgkimaaDoorJc
namespace Go.Proofs.YtchoiimmcgkimaaDoor
open Go.RowKit Go.Shelf
set_option linter.unusedVariables false
set_option maxRecDepth 100000
set_option linter.unusedSimpArgs false

/-- A slice value that reads as integers. -/
structure IntIn (w : World) (n g o : Nat) (f : Nat → Int) : Prop where
  lt : g < w.heap.size
  cell : ∀ i, i < n → w.cell? ⟨g, o + i, none⟩ = some (.int .i64 (f i))
theorem IntIn.later {w w' : World} {n g o : Nat} {f : Nat → Int} (h : IntIn w n g o f) (hb : Below w.heap.size w w') : IntIn w' n g o f :=
  ⟨Nat.lt_of_lt_of_le h.lt hb.size, fun i hi => (hb.cell (p := ⟨g, o + i, none⟩) h.lt).trans (h.cell i hi)⟩
theorem int_info : ∃ i : TypeInfo, Tryd.prog.info? 3 = some i ∧ i.zero = some (.int .i64 0) ∧ i.size = 1 ∧ i.bytes = 8 := by
  obtain ⟨i, h, h0, h1, h2⟩ := info_parts (show (Tryd.prog.info? 3).map (fun i => (i.zero, i.size, i.bytes)) = some (some (.int .i64 0), 1, 8) by kernel_rfl)
  exact ⟨i, h, h0, h1, h2⟩
theorem int_new (w : World) (a : Value) (t : TypeId) : ∀ j u, [a][j]? = some u → (w.alloc (.cells #[a] t)).cell? ((⟨w.heap.size, 0, none⟩ : Addr).add j) = some u := by
  intro j u hu
  have hj := (List.getElem?_eq_some_iff.1 hu).1
  simp at hj
  subst hj
  simp at hu
  subst hu
  rw [addr_off0]
  have hb : (w.alloc (.cells #[a] t)).heap[w.heap.size]? = some (.cells #[a] t) := (MapKept.heap_alloc w _).1
  unfold World.cell?
  rw [hb]
  rfl
section
variable {W w : World} {L : List AObj} {F : List (Nat × Obj)}
theorem Hp.sl_lit (h : Hp W w L F) (a b : Int) : Hp W (w.alloc (.cells #[.int .i64 a, .int .u8 b] 31 (0, 0))) (aBn (.slice (some ⟨w.heap.size, 0, none⟩) 1 1) [(a, b)] :: L) F := by
  refine h.make ((Below.refl _ _).alloc (Nat.le_refl _) _) ⟨⟨rfl, Or.inr ⟨w.heap.size, 1, _, rfl, Nat.zero_le _, (MapKept.heap_alloc w _).1, Nat.le_refl _, by unfold maxLen; omega, rfl, rfl⟩⟩, fun c hc => ?_⟩
  obtain rfl := Option.some.inj hc
  exact ⟨Nat.le_refl _, by simp⟩
theorem Hp.sl_room (h : Hp W w L F) (S : Nat) (hS : S ≤ 100) : Hp W (w.alloc (.cells (madeCells #[.int .i64 0] S) 3 (0, 0))) (aSl 3 1 (.slice (some ⟨w.heap.size, 0, none⟩) 0 S) 0 [] :: L) F := by
  refine h.make ((Below.refl _ _).alloc (Nat.le_refl _) _) ⟨⟨rfl, Or.inr ⟨w.heap.size, S, _, rfl, Nat.zero_le _, (MapKept.heap_alloc w _).1, Nat.zero_le _, by unfold maxLen; omega, by rw [size_madeCells, Nat.mul_one], rfl⟩⟩, fun c hc => ?_⟩
  obtain rfl := Option.some.inj hc
  exact ⟨Nat.le_refl _, by simp⟩
theorem Hp.swap01 {a b : AObj} (h : Hp W w (a :: b :: L) F) : Hp W w (b :: a :: L) F := by
  obtain ⟨bl, o, ho, hF, hn, hL⟩ := h
  refine ⟨bl, fun c => match o c with | some 0 => some 1 | some 1 => some 0 | x => x, fun c hc => ho c (fun e => hc (by simp only [e])), fun p hp => ?_, hn, fun i x hx => ?_⟩
  · obtain ⟨g1, g2, g3⟩ := hF p hp
    exact ⟨g1, by simp only [g2], g3⟩
  · match i, hx with
    | 0, hx => exact x.loc (fun _ _ => rfl) (fun c hc => by simp only [hc]) (hL 1 x (by simpa using hx))
    | 1, hx => exact x.loc (fun _ _ => rfl) (fun c hc => by simp only [hc]) (hL 0 x (by simpa using hx))
    | i + 2, hx => exact x.loc (fun _ _ => rfl) (fun c hc => by simp only [hc]) (hL (i + 2) x (by simpa using hx))
theorem Hp.only {a : AObj} (h : Hp W w (a :: L) F) : Hp W w [a] F := by
  obtain ⟨bl, o, ho, hF, hn, hL⟩ := h
  refine ⟨bl, o, ho, hF, hn, fun i x hx => ?_⟩
  match i, hx with
  | 0, hx => exact hL 0 x (by simpa using hx)
  | i + 1, hx => simp at hx
/-- What a callee made of its own comes first, in the caller's words. -/
theorem Hp.lift {w' : World} {a : AObj} {L2 : List AObj} {F2 : List (Nat × Obj)} (h : Hp W w L F) (h2 : Hp w w' (a :: L2) F2) : Hp W w' (a :: L) F := by
  obtain ⟨bl, o, ho, hF, hn, hL⟩ := h2
  exact h.make bl (a.loc (fun _ _ => rfl) (fun c hc => ho c (by rw [hc]; simp)) (hL 0 a rfl))
theorem number_is {b : Nat} {cat : Int} {o g : Nat} (h : w.heap[b]? = some (cxO cat o g)) (h0 : 0 ≤ cat) (h4 : cat ≤ 4) {i : Nat} {K : Int} (hK : nmK cat i = K) (hi : i ≤ 100) :
    Calls Tryd.prog 14 #[.pointer (some ⟨b, 0, none⟩), .int .i64 (i : Int)] w fun e w' => e = .returned (.int .i64 K) ∧ w = w' := by
  subst hK
  exact number_any h h0 h4 i hi
theorem in_cat {v : Value} {x : AObj} {a : List Int} {z : Int} (h : Hp W w (x :: aSl 3 1 v (a.length + 1) (a.map (.int .i64) ++ [.int .i64 z]) :: L) F) : Hp W w (x :: aSl 3 1 v (a ++ [z]).length ((a ++ [z]).map (.int .i64)) :: L) F := by
  rw [List.length_append, List.map_append]
  exact h
end
theorem nmK_le {cat : Int} (h : cat ≤ 4) (i : Nat) : nmK cat i ≤ 60 + i := by unfold nmK; split <;> omega

set_option maxHeartbeats 4000000 in
theorem bins_any {w : World} (hz : SzIn w) {ca : Nat} (hca : ca ≤ 4) {inc : Int} (h0 : 0 ≤ inc) (h3 : inc ≤ 3) {n c g0 o0 : Nat} {f : Nat → Int} (hn : n = szK ca) (hcn : n ≤ c) (hI : IntIn w n g0 o0 f) (hf : ∀ i, i < n → (f i).natAbs ≤ 32768) :
    Calls Tryd.prog 6 #[.int .u8 (ca : Int), .int .i64 inc, .slice (some ⟨g0, o0, none⟩) n c] w fun e w' => ∃ v', e = .returned (.tuple #[v', .int .i64 0]) ∧ Hp w w' [aBn v' (blkB (ca : Int) inc n f)] [] := by
  obtain ⟨i0, hi, hz0, hz1, hz2⟩ := bin_info
  obtain ⟨j0, hj, hj0, hj1, hj2⟩ := int_info
  have n16 : n ≤ 16 := by rw [hn]; exact szK_le _
  have n4 : 4 ≤ n := by rw [hn]; exact szK_pos hca
  have HZ0 := Lib.hid hz
  have HI := Lib.hid hI
  have HFB := Lib.hid hf
  have HSZ := Lib.hid (show szK ca = n from hn.symm)
  have cw : IntKind.i64.wrap (ca : Int) = (ca : Int) := by rw [IntKind.wrap_i64]; omega
  have c0 : (0 : Int) ≤ (ca : Int) := by omega
  have c4 : (ca : Int) ≤ 4 := by omega
  have w1 : IntKind.i64.wrap (4 * (ca : Int)) = 4 * (ca : Int) := by rw [IntKind.wrap_i64]; omega
  have w2 : IntKind.i64.wrap (66 + 4 * (ca : Int)) = 66 + 4 * (ca : Int) := by rw [IntKind.wrap_i64]; omega
  have w3 : IntKind.i64.wrap (66 + 4 * (ca : Int) + inc) = 66 + 4 * (ca : Int) + inc := by rw [IntKind.wrap_i64]; omega
  have ne : ((n : Int) != (n : Int)) = false := by simp
  have ci : (n : Int) ≤ (c : Int) := by omega
  clear hz hI hf hn
  go_enter Tryd.func6, Tryd.ntmps6
  go_wp2_with (first | (go_at_call 12; (with_reducible refine (args_is HZ0.out hca h0 h3 HSZ.out).mono ?_); rintro e w1 ⟨rfl, rfl⟩))
  go_loopw [10, 33] (fun la ii wr => ∃ k : Nat, ii = .int .i64 (k : Int) ∧ k ≤ n ∧ la = .int .i64 ((lk f k : Int) - 1) ∧ w = wr) (fun _ ii _ => n - (intOf ii).toNat)
  case atStart => exact ⟨0, rfl, by omega, rfl, rfl⟩
  case round =>
    obtain ⟨k, rfl, hk, rfl, rfl⟩ := hrel
    by_cases hlt : k < n
    · have q1 := HI.out.cell k hlt
      have hb := HFB.out k hlt
      obtain ⟨z, hz⟩ : ∃ z, f k = z := ⟨_, rfl⟩
      rw [hz] at q1 hb
      have HZ := Lib.hid hz
      have b1 : ¬ z < -32768 := by omega
      have b2 : ¬ 32768 < z := by omega
      have k0 : (0 : Int) ≤ (k : Int) := by omega
      have k1 : (k : Int) < (n : Int) := by omega
      clear hz hb
      by_cases hz0' : z = 0
      · have e1 : (z != 0) = false := by simp [hz0']
        have HL := Lib.hid (show lk f (k + 1) = lk f k by rw [lk, if_neg (by rw [HZ.out]; simp [hz0'])])
        clear hz0'
        go_wp2_with (fail)
        go_roundw
        case rel => exact ⟨k + 1, by go_num, by omega, by rw [HL.out], trivial⟩
        case measure => simp [intOf]; omega
      · have e1 : (z != 0) = true := by simp [hz0']
        have HL := Lib.hid (show lk f (k + 1) = k + 1 by rw [lk, if_pos (by rw [HZ.out]; exact hz0')])
        go_wp2_with (fail)
        go_roundw
        case rel => exact ⟨k + 1, by go_num, by omega, by rw [HL.out]; go_num, trivial⟩
        case measure => simp [intOf]; omega
    · obtain rfl : n = k := by omega
      have hm := lk_le f n
      obtain ⟨m, hmm⟩ : ∃ m, lk f n = m := ⟨_, rfl⟩
      rw [hmm] at hm
      have HM := Lib.hid hmm
      have HC := Lib.hid (show Hp w (w.alloc (.cells #[.int .i64 (ca : Int), .int .i64 0, .int .i64 0] 44 (0, 0))) [] [(w.heap.size, cxO (ca : Int) 0 0)] from (Hp.start w).alloc (cxO (ca : Int) 0 0))
      obtain ⟨l, hl⟩ : ∃ l : Int, l = (m : Int) - 1 := ⟨_, rfl⟩
      rw [hmm, ← hl]
      clear hmm hlt hk
      by_cases hm0 : m = 0
      · subst hm0
        obtain rfl : l = -1 := by omega
        have HE := Lib.hid (show blkB (ca : Int) inc n f = [(66 + 4 * (ca : Int) + inc, 0)] by unfold blkB blkT; rw [HM.out, if_pos rfl]; rfl)
        have HS := Lib.hid (show b1 false = 0 from rfl)
        clear hl hm
        go_wp2_with (first | (go_at_call 13; (with_reducible refine (flag_is HC.out _ HS.out).mono ?_); rintro e w4 ⟨rfl, h4⟩))
        refine bodyPost_ret (results_tmp2 rfl _ _ _) rfl ⟨_, rfl, ?_⟩
        rw [HE.out]
        exact (h4.sl_lit _ _).drop
      · have HS := Lib.hid (show b1 true = 1 from rfl)
        have l0 : (0 : Int) ≤ l := by omega
        have l1 : ¬ l < 0 := by omega
        have lw : IntKind.i64.wrap (l + 1) = (m : Int) := by rw [IntKind.wrap_i64]; omega
        have m0 : (0 : Int) ≤ (m : Int) := by omega
        have m1 : (m : Int) ≤ (c : Int) := by omega
        have nw : IntKind.i64.wrap ((n : Int) - 1) = (n : Int) - 1 := by rw [IntKind.wrap_i64]; omega
        have hmk : ∀ W' : World, (Instr.makeSlice 22 (.int .i64 0) (.int .i64 (n : Int))).run Tryd.prog W' = .ok (.slice (some ⟨W'.heap.size, 0, none⟩) 0 n) (W'.alloc (.cells (madeCells #[.int .i64 0] n) 3 (0, 0))) := fun W' => by
          have := run_make (P := Tryd.prog) W' 22 3 j0 (.int .i64 0) Tryd.underlying22 hj hj0 .i64 .i64 0 (n : Int) (by omega) (by omega) (by rw [hj2]; omega) (by omega)
          rw [hj1] at this
          simpa [Value.cells] using this
        obtain ⟨X0, hX0⟩ : ∃ X : Int × Int, X = (66 + 4 * (ca : Int) + inc, 1) := ⟨_, rfl⟩
        have HX0 := Lib.hid hX0
        have HL := Lib.hid hl
        have HMN := Lib.hid (And.intro hm hm0)
        clear hX0 hl hm hm0
        go_wp2_with (first | (go_at_call 13; (with_reducible refine (flag_is HC.out _ HS.out).mono ?_); rintro e w4 ⟨rfl, h4⟩))
        have h5 := (h4.sl_lit (66 + 4 * (ca : Int) + inc) 1).sl_room n (by omega)
        replace h5 := h5.swap01
        simp only [World.size_alloc] at h5
        rw [← HX0.out] at h5
        clear h4 hmk cw w1 w2 w3 ne
        generalize ((w4.alloc _).alloc _) = w5 at h5 ⊢
        generalize hb : w.heap.size = b at h5 ⊢
        have HB := Lib.hid hb
        clear hb
        have H5 := Lib.hid (show Hp w w5 (aBn (.slice (some ⟨w4.heap.size, 0, none⟩) 1 1) (X0 :: mpB (ca : Int) n m f 0) :: aSl 3 1 (.slice (some ⟨w4.heap.size + 1, 0, none⟩) 0 n) (rm f 0).length ((rm f 0).map (.int .i64)) :: []) [(b, cxO (ca : Int) 0 0)] from h5)
        clear h5 HC
        generalize hcat : (ca : Int) = cat at *
        go_loopw [14, 15, 74] (fun ov rv ii wr => ∃ k : Nat, ii = .int .i64 (k : Int) ∧ k ≤ m ∧ Hp w wr (aBn ov (X0 :: mpB cat n m f k) :: aSl 3 1 rv (rm f k).length ((rm f k).map (.int .i64)) :: []) [(b, cxO cat 0 0)]) (fun _ _ ii _ => m - (intOf ii).toNat)
        case atStart => exact ⟨0, rfl, by omega, H5.out⟩
        case round =>
          obtain ⟨k, rfl, hk, g⟩ := hrel
          clear H5
          by_cases hkm : k < m
          · obtain ⟨z, hz⟩ : ∃ z, f k = z := ⟨_, rfl⟩
            have q1 := (g.below.cell (p := ⟨g0, o0 + k, none⟩) HI.out.lt).trans (HI.out.cell k (by have := HMN.out.1; omega))
            rw [hz] at q1
            have HZe := Lib.hid hz
            obtain ⟨B0, hB0⟩ : ∃ B0, X0 :: mpB cat n m f k = B0 := ⟨_, rfl⟩
            obtain ⟨R0, hR0⟩ : ∃ R0, rm f k = R0 := ⟨_, rfl⟩
            obtain ⟨K, hK⟩ : ∃ K, nmK cat k = K := ⟨_, rfl⟩
            have hKb : 0 ≤ K ∧ K ≤ 100 := by rw [← hK]; have := nmK_le c4 k; have := nmK_nn c0 k; have := HMN.out.1; omega
            have HKe := Lib.hid hK
            have HK := Lib.hid (And.intro hK (show k ≤ 100 by have := HMN.out.1; omega))
            have HB0l := Lib.hid (show B0.length ≤ 100 by rw [← hB0, List.length_cons]; have := mpB_len cat n m f k; have := HMN.out.1; omega)
            have HR := Lib.hid (And.intro hR0 (show R0.length ≤ 100 by rw [← hR0]; have := rm_len_le f k; have := HMN.out.1; omega))
            have HB0 := Lib.hid hB0
            rw [hB0, hR0] at g
            have v1 : IntKind.i64.wrap (86 + K) = 86 + K := by rw [IntKind.wrap_i64]; omega
            have v2 : IntKind.i64.wrap (161 + K) = 161 + K := by rw [IntKind.wrap_i64]; omega
            have k0 : (0 : Int) ≤ (k : Int) := by omega
            have k1 : (k : Int) < (m : Int) := by omega
            have kw : IntKind.i64.wrap ((k : Int) + 1) = (k : Int) + 1 := by rw [IntKind.wrap_i64]; have := HMN.out.1; omega
            obtain ⟨lb, hlb⟩ : ∃ b, decide (k + 1 = m) = b := ⟨_, rfl⟩
            have hlb2 : ((k : Int) == l) = lb := by rw [← hlb]; have := HL.out; rw [Bool.eq_iff_iff]; simp; omega
            obtain ⟨s2, hs2⟩ : ∃ x, b1 lb = x := ⟨_, rfl⟩
            have HS2 := Lib.hid hs2
            have HS2e := Lib.hid (show b1 (decide (k + 1 = m)) = s2 by rw [hlb]; exact hs2)
            clear hz hB0 hR0 hK hKb hlb hs2
            obtain ⟨spa, cpa, rfl, _, _⟩ := g.sl_form 0 at0
            obtain ⟨spb, cpb, rfl, _, _⟩ := g.sl_form 1 at1
            by_cases hin : k + 1 < n
            · have i1 : decide ((k : Int) < (n : Int) - 1) = true := by simp; omega
              have i2 : (k : Int) < (n : Int) - 1 := by omega
              by_cases hnz : z = 0
              · have e1 : (z != 0) = false := by simp [hnz]
                have e2 : (z == 0) = true := by simp [hnz]
                have HF := Lib.hid (show k + 1 < n ∧ ¬ f k ≠ 0 from ⟨hin, by rw [HZe.out]; simp [hnz]⟩)
                obtain ⟨s1, hs1⟩ : ∃ x, b1 false = x := ⟨_, rfl⟩
                have HS1 := Lib.hid hs1
                have HS1e := Lib.hid (show b1 (decide (f k ≠ 0)) = s1 by rw [HZe.out, decide_eq_false (by simp [hnz])]; exact hs1)
                clear hin hnz hs1
                go_wp2_with (first | (go_at_call 14; (with_reducible refine (number_is (g.blk (List.mem_cons_self ..)) c0 c4 HK.out.1 HK.out.2).mono ?_); rintro e w1 ⟨rfl, rfl⟩) | (go_at_call 13; (with_reducible refine (flag_is g _ HS1.out).mono ?_); rintro e w1a ⟨rfl, h1a⟩) | (at_builtin; refine wpList_append_hp rfl _ _ 26 rfl 31 i0 (bvl (0, 0)) 2 16 Tryd.underlying26 hi hz0 hz1 hz2 rfl (by decide) (h1a.lost _) 0 at0 rfl ⟨w1a.heap.size, 0, none⟩ 1 1 (bcs [(86 + K, s1)]) rfl ?c0 ?c1 ?c2 ?c3 ?c4 ?_))
                case c0 => rfl
                case c1 => exact bin_new _ _ _ _
                case c2 => exact bcs_one _
                case c3 => have := HB0l.out; unfold maxLen; omega
                case c4 => have := HB0l.out; omega
                intro v1b w1b h1b
                try simp only [set0] at h1b
                replace h1b := (bn_cat1 h1b)
                obtain ⟨B1, hB1⟩ : ∃ B, B = B0 ++ [(86 + K, s1)] := ⟨_, rfl⟩
                rw [← hB1] at h1b
                have HB1 := Lib.hid hB1
                have HB1l := Lib.hid (show B1.length ≤ 201 by rw [hB1, List.length_append]; have := HB0l.out; simp; omega)
                clear hB1
                obtain ⟨sp1, cp1, rfl, _, _⟩ := h1b.sl_form 0 at0
                have HE := Lib.hid h1b
                clear h1b
                go_wp2_with (fail)
                go_roundw
                case rel =>
                  refine ⟨k + 1, by go_num, by omega, ?_⟩
                  have e : X0 :: mpB cat n m f (k + 1) = B1 := by rw [mpB, HKe.out, ← List.cons_append, HB0.out, if_pos HF.out.1, if_neg (fun h => HF.out.2 h.1), HS1e.out]; rw [HB1.out, List.append_nil]
                  have e2 : rm f (k + 1) = R0 := by rw [rm, HR.out.1, if_neg HF.out.2, List.append_nil]
                  rw [e, e2]
                  exact HE.out
                case measure => simp [intOf]; omega
              · have e1 : (z != 0) = true := by simp [hnz]
                have e2 : (z == 0) = false := by simp [hnz]
                have HF := Lib.hid (show k + 1 < n ∧ f k ≠ 0 from ⟨hin, by rw [HZe.out]; exact hnz⟩)
                obtain ⟨s1, hs1⟩ : ∃ x, b1 true = x := ⟨_, rfl⟩
                have HS1 := Lib.hid hs1
                have HS1e := Lib.hid (show b1 (decide (f k ≠ 0)) = s1 by rw [HZe.out, decide_eq_true hnz]; exact hs1)
                clear hin hnz hs1
                go_wp2_with (first | (go_at_call 14; (with_reducible refine (number_is (g.blk (List.mem_cons_self ..)) c0 c4 HK.out.1 HK.out.2).mono ?_); rintro e w1 ⟨rfl, rfl⟩) | (go_at_call 13; (with_reducible refine (flag_is g _ HS1.out).mono ?_); rintro e w1a ⟨rfl, h1a⟩) | (at_builtin; refine wpList_append_hp rfl _ _ 26 rfl 31 i0 (bvl (0, 0)) 2 16 Tryd.underlying26 hi hz0 hz1 hz2 rfl (by decide) (h1a.lost _) 0 at0 rfl ⟨w1a.heap.size, 0, none⟩ 1 1 (bcs [(86 + K, s1)]) rfl ?c0 ?c1 ?c2 ?c3 ?c4 ?_))
                case c0 => rfl
                case c1 => exact bin_new _ _ _ _
                case c2 => exact bcs_one _
                case c3 => have := HB0l.out; unfold maxLen; omega
                case c4 => have := HB0l.out; omega
                intro v1b w1b h1b
                try simp only [set0] at h1b
                replace h1b := (bn_cat1 h1b)
                obtain ⟨B1, hB1⟩ : ∃ B, B = B0 ++ [(86 + K, s1)] := ⟨_, rfl⟩
                rw [← hB1] at h1b
                have HB1 := Lib.hid hB1
                have HB1l := Lib.hid (show B1.length ≤ 201 by rw [hB1, List.length_append]; have := HB0l.out; simp; omega)
                clear hB1
                obtain ⟨sp1, cp1, rfl, _, _⟩ := h1b.sl_form 0 at0
                go_wp2_with (first | (at_builtin; refine wpList_append_hp rfl _ _ 22 rfl 3 j0 (.int .i64 0) 1 8 Tryd.underlying22 hj hj0 hj1 hj2 rfl (by decide) (h1b.lost _) 1 at1 rfl ⟨w1b.heap.size, 0, none⟩ 1 1 [.int .i64 z] rfl ?c0 ?c1 ?c2 ?c3 ?c4 ?_))
                try (case c0 => rfl)
                try (case c1 => exact int_new _ _ _)
                case c2 => first | rfl | (intro u hu; simp at hu; subst hu; rfl)
                case c3 => have := HR.out.2; unfold maxLen; omega
                case c4 => have := HR.out.2; omega
                intro vr wr2 hr2
                try simp only [set1] at hr2
                have hr3 := in_cat hr2
                clear hr2
                obtain ⟨R1, hR1⟩ : ∃ R, R = R0 ++ [z] := ⟨_, rfl⟩
                rw [← hR1] at hr3
                have HR1 := Lib.hid hR1
                clear hR1
                obtain ⟨spr, cpr, rfl, _, _⟩ := hr3.sl_form 1 at1
                go_wp2_with (first | (go_at_call 14; (with_reducible refine (number_is (hr3.blk (List.mem_cons_self ..)) c0 c4 HK.out.1 HK.out.2).mono ?_); rintro e w1 ⟨rfl, rfl⟩) | (go_at_call 13; (with_reducible refine (flag_is hr3 _ HS2.out).mono ?_); rintro e w2a ⟨rfl, h2a⟩) | (at_builtin; refine wpList_append_hp rfl _ _ 26 rfl 31 i0 (bvl (0, 0)) 2 16 Tryd.underlying26 hi hz0 hz1 hz2 rfl (by decide) (h2a.lost _) 0 at0 rfl ⟨w2a.heap.size, 0, none⟩ 1 1 (bcs [(161 + K, s2)]) rfl ?c0 ?c1 ?c2 ?c3 ?c4 ?_))
                case c0 => rfl
                case c1 => exact bin_new _ _ _ _
                case c2 => exact bcs_one _
                case c3 => have := HB1l.out; unfold maxLen; omega
                case c4 => have := HB1l.out; omega
                intro v2b w2b h2b
                try simp only [set0] at h2b
                replace h2b := (bn_cat1 h2b)
                obtain ⟨B2, hB2⟩ : ∃ B, B = B1 ++ [(161 + K, s2)] := ⟨_, rfl⟩
                rw [← hB2] at h2b
                have HB2 := Lib.hid hB2
                have HB2l := Lib.hid (show B2.length ≤ 202 by rw [hB2, List.length_append]; have := HB1l.out; simp; omega)
                clear hB2
                obtain ⟨sp2, cp2, rfl, _, _⟩ := h2b.sl_form 0 at0
                have HE := Lib.hid h2b
                clear h2b
                go_wp2_with (fail)
                go_roundw
                case rel =>
                  refine ⟨k + 1, by go_num, by omega, ?_⟩
                  have e : X0 :: mpB cat n m f (k + 1) = B2 := by rw [mpB, HKe.out, ← List.cons_append, HB0.out, if_pos HF.out.1, if_pos ⟨HF.out.2, HF.out.1⟩, HS1e.out, HS2e.out]; rw [HB2.out, HB1.out, List.append_assoc]
                  have e2 : rm f (k + 1) = R1 := by rw [rm, HR.out.1, if_pos HF.out.2, HZe.out, HR1.out]
                  rw [e, e2]
                  exact HE.out
                case measure => simp [intOf]; omega
            · have i1 : decide ((k : Int) < (n : Int) - 1) = false := by simp; omega
              have i2 : ¬ (k : Int) < (n : Int) - 1 := by omega
              by_cases hnz : z = 0
              · have e1 : (z != 0) = false := by simp [hnz]
                have e2 : (z == 0) = true := by simp [hnz]
                have HF := Lib.hid (show ¬ k + 1 < n ∧ ¬ f k ≠ 0 from ⟨hin, by rw [HZe.out]; simp [hnz]⟩)
                clear hin hnz
                have HE := Lib.hid g
                clear g
                go_wp2_with (fail)
                go_roundw
                case rel =>
                  refine ⟨k + 1, by go_num, by omega, ?_⟩
                  have e : X0 :: mpB cat n m f (k + 1) = B0 := by rw [mpB, HKe.out, ← List.cons_append, HB0.out, if_neg HF.out.1, if_neg (fun h => HF.out.2 h.1)]; simp
                  have e2 : rm f (k + 1) = R0 := by rw [rm, HR.out.1, if_neg HF.out.2, List.append_nil]
                  rw [e, e2]
                  exact HE.out
                case measure => simp [intOf]; omega
              · have e1 : (z != 0) = true := by simp [hnz]
                have e2 : (z == 0) = false := by simp [hnz]
                have HF := Lib.hid (show ¬ k + 1 < n ∧ f k ≠ 0 from ⟨hin, by rw [HZe.out]; exact hnz⟩)
                clear hin hnz
                go_wp2_with (first | (at_builtin; refine wpList_append_hp rfl _ _ 22 rfl 3 j0 (.int .i64 0) 1 8 Tryd.underlying22 hj hj0 hj1 hj2 rfl (by decide) (g.lost _) 1 at1 rfl ⟨wr.heap.size, 0, none⟩ 1 1 [.int .i64 z] rfl ?c0 ?c1 ?c2 ?c3 ?c4 ?_))
                try (case c0 => rfl)
                try (case c1 => exact int_new _ _ _)
                case c2 => first | rfl | (intro u hu; simp at hu; subst hu; rfl)
                case c3 => have := HR.out.2; unfold maxLen; omega
                case c4 => have := HR.out.2; omega
                intro vr wr2 hr2
                try simp only [set1] at hr2
                have hr3 := in_cat hr2
                clear hr2
                obtain ⟨R1, hR1⟩ : ∃ R, R = R0 ++ [z] := ⟨_, rfl⟩
                rw [← hR1] at hr3
                have HR1 := Lib.hid hR1
                clear hR1
                obtain ⟨spr, cpr, rfl, _, _⟩ := hr3.sl_form 1 at1
                have HE := Lib.hid hr3
                clear hr3
                go_wp2_with (fail)
                go_roundw
                case rel =>
                  refine ⟨k + 1, by go_num, by omega, ?_⟩
                  have e : X0 :: mpB cat n m f (k + 1) = B0 := by rw [mpB, HKe.out, ← List.cons_append, HB0.out, if_neg HF.out.1, if_neg (fun h => HF.out.1 h.2)]; simp
                  have e2 : rm f (k + 1) = R1 := by rw [rm, HR.out.1, if_pos HF.out.2, HZe.out, HR1.out]
                  rw [e, e2]
                  exact HE.out
                case measure => simp [intOf]; omega
          · obtain rfl : m = k := by omega
            have hp := rm_pos (f := f) (k := m) (j := m - 1) (lk_nz (k := n) (by rw [HM.out]; have := HMN.out.2; omega)) (by have := HMN.out.2; omega)
            obtain ⟨N, hN⟩ : ∃ N, (rm f m).length = N := ⟨_, rfl⟩
            have hNm := rm_len_le f m
            rw [hN] at hp hNm
            obtain ⟨gr, cr, rfl⟩ := sl_pos (g.sl 1 rfl) (by rw [hN]; exact hp)
            rw [hN] at g ⊢
            have HG := Lib.hid g
            have HN := Lib.hid hN
            have hNc := (g.sl_form 1 at1)
            have nc1 : (N : Int) ≤ (cr : Int) := by
              have := (g.sl 1 rfl).2
              rcases this with ⟨e, _⟩ | ⟨_, _, _, e, _, _, e2, _⟩
              · cases e
              · injection e with _ _ e3; omega
            have HT := Lib.hid (show blkB cat inc n f = (X0 :: mpB cat n m f m) ++ lvP cat (rm f m).reverse N by unfold blkB blkT; rw [HM.out, if_neg HMN.out.2, decide_eq_true HMN.out.2, hN, HX0.out, ← hcat]; rfl)
            have HLV := Lib.hid (show (rm f m).length = N ∧ N ≤ 16 ∧ (∀ z ∈ rm f m, z ≠ 0 ∧ z.natAbs ≤ 32768) ∧ (X0 :: mpB cat n m f m).length ≤ 1000 from ⟨hN, by have := HMN.out.1; omega, fun z hz => ⟨rm_nz f m z hz, by obtain ⟨i, hi, rfl⟩ := rm_mem f m z hz; exact HFB.out i (by have := HMN.out.1; omega)⟩, by rw [List.length_cons]; have := mpB_len cat n m f m; have := HMN.out.1; omega⟩)
            have ni0 : (0 : Int) ≤ (N : Int) := by omega
            clear g hN hp hNm hNc hk hkm
            go_wp2_with (first | (go_at_call 15; (with_reducible refine (levels_any HG.out HLV.out.1 HLV.out.2.1 HLV.out.2.2.1 c0 c4 HLV.out.2.2.2).mono ?_); rintro e w9 ⟨v9, rfl, h9⟩))
            refine bodyPost_ret (results_tmp2 rfl _ _ _) rfl ⟨_, rfl, ?_⟩
            rw [hcat, HT.out]
            exact h9.only
end Go.Proofs.YtchoiimmcgkimaaDoor
