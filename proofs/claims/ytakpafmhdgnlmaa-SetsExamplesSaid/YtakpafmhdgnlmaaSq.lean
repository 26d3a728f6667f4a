/- The walk of SetsExamples. -/
import Derived.Test.YtakpafmhdgnlmaaSn
import Derived.Great.BuildSlice
import Derived.Deep.CutRange
namespace Go.Proofs.Ytakpafmhdgnlmaa
open Go.RowKit
set_option linter.unusedVariables false
set_option maxRecDepth 100000
set_option linter.unusedSimpArgs false

theorem get_nil (id : Int) (w : World) : Calls Try.prog 17 #[.pointer none, .int .i64 id] w fun e w' => e = .returned (.tuple #[pv p00, sv s00, .int .i64 1]) ∧ Below w.heap.size w w' := by
  have hfin : ∀ v1, v1 = (w.alloc (pObj p00)).alloc (sObj s00) → Below w.heap.size w v1 ∧ (loadVar 26 ⟨w.heap.size, 0, none⟩).run Try.prog v1 = .ok (pv p00) v1 ∧ (loadVar 29 ⟨w.heap.size + 1, 0, none⟩).run Try.prog v1 = .ok (sv s00) v1 := by
    rintro v1 rfl
    exact ⟨((Below.refl _ _).alloc (Nat.le_refl _) _).alloc (by simp) _, load_p (blk_old _ (blk0 w _)), load_s (blk1 w _ _)⟩
  have HF := Lib.hid hfin
  clear hfin
  go_enter Try.func17, Try.ntmps17
  go_wp2_with (fail)
  obtain ⟨q1, q2, q3⟩ := HF.out _ rfl
  exact bodyPost_ret (results_get rfl rfl rfl q2 q3) rfl ⟨rfl, q1⟩
theorem puts_nil (x : SpsD) (w : World) : Calls Try.prog 15 #[.pointer none, sv x] w fun e w' => e = .returned (.int .i64 1) ∧ Below w.heap.size w w' := by
  go_enter Try.func15, Try.ntmps15
  go_wp2_with (fail)
  exact bodyPost_ret (results_tmp rfl _ _ _) rfl ⟨rfl, (Below.refl _ _).alloc (Nat.le_refl _) _⟩
theorem putp_nil (x : PpsD) (w : World) : Calls Try.prog 16 #[.pointer none, pv x] w fun e w' => e = .returned (.int .i64 1) ∧ Below w.heap.size w w' := by
  go_enter Try.func16, Try.ntmps16
  go_wp2_with (fail)
  exact bodyPost_ret (results_tmp rfl _ _ _) rfl ⟨rfl, (Below.refl _ _).alloc (Nat.le_refl _) _⟩
theorem scopy_nil (w : World) : Calls Try.prog 22 #[.pointer none] w fun e w' => e = .returned (.pointer none) ∧ w = w' := by
  go_enter Try.func22, Try.ntmps22
  go_wp2_with (fail)
  exact bodyPost_ret (results_tmp rfl _ _ _) rfl ⟨rfl, rfl⟩

theorem row_new2 (w : World) (cs : List Value) (t : TypeId) {X : Nat} (hX : w.heap.size = X) : ∀ j u, cs[j]? = some u → (w.alloc (.cells cs.toArray t (0, 0))).cell? ((⟨X, 0, none⟩ : Addr).add j) = some u := by
  subst hX; exact row_new w cs t
theorem wfA_lit {z : Int} (h1 : -1000 ≤ z) (h2 : z ≤ 1000) : (Lit.int .i64 z).wf = true := WalkArith.wf_i64 (by omega)
theorem wpList_build_as {P : Program} {ops : Array Oper} {rest : List Oper} {o : Oper} {a : Act} {w : World} {Q : Exit → Act → World → Prop} (hg : o.guard = none) (t : TypeId) (parts : Array (Nat × Operand)) (ho : o.op = .build t parts) (cells : Array Value)
    {L : List (Nat × Value)} (hL : (parts.map fun (i, x) => (i, a.eval x)).toList = L) (hc : P.built t L = some cells) (h : wpList P ops Q rest (a.put o.dst (.agg cells)) w) : wpList P ops Q (o :: rest) a w :=
  wpList_plain hg fun _ hK => wp_build t parts ho (by rw [hL, hc]; rfl) (by rw [hL, hc]; exact hK _ _ h)
theorem wpList_buildSlice_as {P : Program} {ops : Array Oper} {rest : List Oper} {o : Oper} {a : Act} {w : World} {Q : Exit → Act → World → Prop} (hg : o.guard = none) (t e : TypeId) (len : Nat) (parts : Array (Nat × Operand)) (ho : o.op = .buildSlice t len parts)
    (cells : Array Value) (ie : TypeInfo) (z : Value)
    (hu : P.underlying t = some (.slice e)) (hie : P.info? e = some ie) (hz : ie.zero = some z) (hsmall : ¬ len * ie.size > 2 ^ 24) (hpos : ¬ len * ie.size = 0)
    {L : List (Nat × Value)} (hL : (parts.map fun (i, x) => (i, a.eval x)).toList = L) (hf : Instr.fill (fun i => some (i * ie.size, ie.size)) ((Array.range (len * ie.size)).map (z.cells[· % z.cells.size]!)) L = some cells)
    (h : wpList P ops Q rest (a.put o.dst (.slice (some ⟨w.heap.size, 0, none⟩) len len)) (w.alloc (.cells cells e))) : wpList P ops Q (o :: rest) a w :=
  wpList_buildSlice hg t e len parts ho cells ie z hu hie hz hsmall hpos (by rw [hL]; exact hf) h
def actZ : Value := .agg #[.int .u8 0, .int .u8 0, .int .u8 0, .int .u8 0, .int .i64 0, .int .i64 0, .int .i64 0, .int .i64 0, .int .i64 0, .int .i64 0, .int .i64 0, .int .i64 0, .bool false, .int .i64 0, .int .i64 0, .int .i64 0, .int .i64 0, .int .i64 0, .bool false, .bool false, .int .i64 0]
theorem act_info3 : ∃ i : TypeInfo, Try.prog.info? 51 = some i ∧ i.zero = some actZ ∧ i.size = 21 ∧ i.bytes = 144 := by
  obtain ⟨i, h, h0, h1, h2⟩ := info_parts (show (Try.prog.info? 51).map (fun i => (i.zero, i.size, i.bytes)) = some (some actZ, 21, 144) by kernel_rfl)
  exact ⟨i, h, h0, h1, h2⟩
theorem fill3 (a1 a2 a3 : ActD) : Instr.fill (fun i => some (i * 21, 21)) ((Array.range (3 * 21)).map (actZ.cells[· % actZ.cells.size]!)) [(0, .agg (acs a1).toArray), (1, .agg (acs a2).toArray), (2, .agg (acs a3).toArray)] = some (acs a1 ++ acs a2 ++ acs a3).toArray := by kernel_rfl
theorem built1 (x : SpsD) : Try.prog.built 51 [(1, sv x)] = some (acs ⟨0, x, p00, 0⟩).toArray := by kernel_rfl
theorem built2 (y : PpsD) : Try.prog.built 51 [(0, .int .u8 1), (2, pv y)] = some (acs ⟨1, s00, y, 0⟩).toArray := by kernel_rfl
theorem built3 (z : Int) : Try.prog.built 51 [(0, .int .u8 2), (3, .int .i64 z)] = some (acs ⟨2, s00, p00, z⟩).toArray := by kernel_rfl

set_option maxHeartbeats 8000000 in
theorem sexamples_walk (W : World) : Calls Try.prog 6 #[] W fun e w' => e = .returned (.bool true) ∧ Below W.heap.size W w' := by
  have hS := (Hp.start W).sl_nil 51 21
  have H0 := Lib.hid hS
  clear hS
  obtain ⟨ti, ti1, ti2, ti3, ti4⟩ := act_info3
  go_enter Try.func6, Try.ntmps6
  go_wp2_with (fail)
  go_loopw [1, 2] (fun l' i' wr => ∃ (z : Int) (v : Value) (As : List ActD), l' = v ∧ i' = .int .i64 z ∧ (-1 ≤ z ∧ z ≤ 34) ∧ Hid ((As.length : Int) = 3 * (z + 1) ∧ ∀ a ∈ As, WfA a) ∧ Hp W wr [aSl 51 21 v As.length (As.flatMap acs)] []) (fun _ i' _ => (34 - intOf i').toNat)
  case atStart => exact ⟨-1, _, [], rfl, rfl, ⟨by decide, by decide⟩, Lib.hid ⟨rfl, fun a ha => by cases ha⟩, H0.out⟩
  case round =>
    obtain ⟨z, v, As, rfl, rfl, ⟨hz1, hz2⟩, HA, h⟩ := hrel
    by_cases hz : z < 34
    · have hlen : As.length ≤ 200 := by have := HA.out.1; omega
      have H := Lib.hid h
      clear h
      obtain ⟨x1, hx1⟩ : ∃ x : SpsD, x = ⟨77, 0, 10, z, 4, 4, 1, 1, 1⟩ := ⟨_, rfl⟩
      obtain ⟨y1, hy1⟩ : ∃ y : PpsD, y = ⟨31 - z, z.tdiv 2, false, 1, 1, 0, 0, 0, false, false⟩ := ⟨_, rfl⟩
      have HX1 := Lib.hid hx1
      have HY1 := Lib.hid hy1
      obtain ⟨N, hN⟩ : ∃ N, N = acs ⟨0, x1, p00, 0⟩ ++ acs ⟨1, s00, y1, 0⟩ ++ acs ⟨2, s00, p00, z⟩ := ⟨_, rfl⟩
      have HN := Lib.hid hN
      have HN1 : Hid (∀ u ∈ N, u.oneCell' = true) := Lib.hid (by
        intro u hu
        rw [hN] at hu
        rcases List.mem_append.1 hu with hu | hu
        · rcases List.mem_append.1 hu with hu | hu
          · exact acs_one _ u hu
          · exact acs_one _ u hu
        · exact acs_one _ u hu)
      have HNL : Hid (N.length = 3 * 21) := Lib.hid (by rw [hN]; rfl)
      clear hx1 hy1 hN
      go_upto_region 7 with (first | (go_at_call 23; (with_reducible refine (plain_s _).mono ?_); rintro e w1 ⟨rfl, hbl⟩; have h1 := H.out.same hbl; clear hbl) | (go_at_call 24; (with_reducible refine (plain_p _).mono ?_); rintro e w2 ⟨rfl, hbl⟩; have h2 := h1.same hbl; clear h1 hbl))
      go_wp2_with (first | ((with_reducible change wpList _ _ _ ({ dst := _, op := Op.build _ #[(1, _)], type := _, pos := _, after := _, guard := _ } :: _) _ _); refine wpList_build_as rfl 51 #[(1, .tmp 25)] rfl (acs ⟨0, ⟨77, 0, 10, z, 4, 4, 1, 1, 1⟩, p00, 0⟩).toArray (by simp [Act.eval, Act.put] <;> rfl) (built1 ⟨77, 0, 10, z, 4, 4, 1, 1, 1⟩) ?_) | ((with_reducible change wpList _ _ _ ({ dst := _, op := Op.build _ #[(0, _), (2, _)], type := _, pos := _, after := _, guard := _ } :: _) _ _); refine wpList_build_as rfl 51 #[(0, .const (.int .u8 1)), (2, .tmp 27)] rfl (acs ⟨1, s00, ⟨31 - z, z.tdiv 2, false, 1, 1, 0, 0, 0, false, false⟩, 0⟩).toArray (by simp [Act.eval, Act.put] <;> rfl) (built2 ⟨31 - z, z.tdiv 2, false, 1, 1, 0, 0, 0, false, false⟩) ?_) | ((with_reducible change wpList _ _ _ ({ dst := _, op := Op.build _ #[(0, _), (3, _)], type := _, pos := _, after := _, guard := _ } :: _) _ _); refine wpList_build_as rfl 51 #[(0, .const (.int .u8 2)), (3, .tmp 29)] rfl (acs ⟨2, s00, p00, z⟩).toArray (by simp [Act.eval, Act.put] <;> rfl) (built3 z) ?_) | ((with_reducible change wpList _ _ _ ({ dst := _, op := Op.buildSlice _ _ _, type := _, pos := _, after := _, guard := _ } :: _) _ _); refine wpList_buildSlice_as rfl 47 51 3 #[(0, .tmp 26), (1, .tmp 28), (2, .tmp 30)] rfl N.toArray ti actZ Try.underlying47 ti1 ti2 (by rw [ti3]; decide) (by rw [ti3]; decide) (by simp [Act.eval, Act.put] <;> rfl) (by rw [ti3, HN.out, HX1.out, HY1.out]; exact fill3 _ _ _) ?_) | (at_builtin; refine wpList_append_hp rfl (.tmp 24) (.tmp 31) 47 rfl 51 ti actZ 21 144 Try.underlying47 ti1 ti2 ti3 ti4 rfl (by decide) (((h2.lost _).lost _).lost _) 0 at0 rfl _ 3 3 N rfl HNL.out ?c1 HN1.out ?c3 ?c4 ?_))
      case c1 => exact row_new _ N _
      case c3 => unfold maxLen; omega
      case c4 => omega
      intro v' w3 h3
      try simp only [set0] at h3
      go_wp2_with (fail)
      go_roundw
      case rel =>
        have hq : -17 ≤ z.tdiv 2 ∧ z.tdiv 2 ≤ 17 := by
          by_cases hm : z = -1
          · subst hm; decide
          · rw [Int.tdiv_eq_ediv_of_nonneg (by omega)]; omega
        obtain ⟨hq1, hq2⟩ := hq
        refine ⟨z + 1, v', As ++ [⟨0, x1, p00, 0⟩, ⟨1, s00, y1, 0⟩, ⟨2, s00, p00, z⟩], rfl, by go_num, ⟨by omega, by omega⟩, Lib.hid ⟨?_, ?_⟩, ?_⟩
        · have := HA.out.1
          rw [List.length_append]
          simp
          omega
        · intro a ha
          rcases List.mem_append.1 ha with ha | ha
          · exact HA.out.2 a ha
          · simp only [List.mem_cons, List.not_mem_nil, or_false] at ha
            rcases ha with rfl | rfl | rfl
            · rw [HX1.out]
              unfold WfA
              refine ⟨?_, ?_, ?_, ?_, ?_, ?_, ?_, ?_, ?_, ?_, ?_, ?_, ?_, ?_, ?_, ?_, ?_, ?_⟩ <;> (dsimp only; first | decide | exact wfA_lit (by omega) (by omega))
            · rw [HY1.out]
              unfold WfA
              refine ⟨?_, ?_, ?_, ?_, ?_, ?_, ?_, ?_, ?_, ?_, ?_, ?_, ?_, ?_, ?_, ?_, ?_, ?_⟩ <;> (dsimp only; first | decide | exact wfA_lit (by omega) (by omega))
            · unfold WfA
              refine ⟨?_, ?_, ?_, ?_, ?_, ?_, ?_, ?_, ?_, ?_, ?_, ?_, ?_, ?_, ?_, ?_, ?_, ?_⟩ <;> (dsimp only; first | decide | exact wfA_lit (by omega) (by omega))
        · rw [List.length_append, List.flatMap_append]
          have e : ([⟨0, x1, p00, 0⟩, ⟨1, s00, y1, 0⟩, ⟨2, s00, p00, z⟩] : List ActD).flatMap acs = N := by rw [HN.out]; rfl
          rw [e]
          exact h3
      case measure => simp [intOf]; omega
    · obtain rfl : z = 34 := by omega
      have hl : As.length = 105 := by have := HA.out.1; omega
      obtain ⟨g, cap, rfl, hcap, h5⟩ := h.so_of 0 at0 (by omega)
      simp only [set0] at h5
      have HW := Lib.hid HA.out.2
      have H5 := Lib.hid h5
      have HL := Lib.hid hl
      clear h h5 HA
      rw [hl] at hcap ⊢
      clear hl
      go_wp2_with (fail)
      go_loopw [1, 5] (fun l' i' wr => ∃ (c g off cap : Nat) (As : List ActD), l' = .slice (some ⟨g, off, none⟩) As.length cap ∧ i' = .int .i64 c ∧ c ≤ 2 ∧ (105 ≤ As.length ∧ ((c = 0 ∧ As.length ≤ 105) ∨ (c = 1 ∧ As.length ≤ 150) ∨ (c = 2 ∧ As.length ≤ 240)) ∧ As.length ≤ cap) ∧ Hid (∀ a ∈ As, WfA a) ∧ Hp W wr [aSo g off cap As] []) (fun _ i' _ => 2 - (intOf i').toNat)
      case atStart => exact ⟨0, g, 0, cap, As, by rw [HL.out], rfl, by decide, by have := HL.out; omega, HW, H5.out⟩
      case round =>
        clear hcap HW H5 HL
        obtain ⟨c, g, off, cap, As, rfl, rfl, hc, ⟨hn1, hn2, hn3⟩, HW, h⟩ := hrel
        by_cases hc2 : c < 2
        · obtain ⟨n, hn⟩ : ∃ n, As.length = n := ⟨_, rfl⟩
          have HN := Lib.hid hn
          rw [hn] at hn1 hn2 hn3 ⊢
          have rows : ∀ {w' : World}, Hp W w' [aSo g off cap As] [] → ∀ k, k ≤ n → RowsIn Try.prog w' [.int .u8, .int .u8, .int .u8, .int .u8, .int .i64, .int .i64, .int .i64, .int .i64, .int .i64, .int .i64, .int .i64, .int .i64, .bool, .int .i64, .int .i64, .int .i64, .int .i64, .int .i64, .bool, .bool, .int .i64] (some ⟨g, off + k * 21, none⟩) (n - k) g (off + k * 21) (fun i => ((As[k + i]?).map acs).getD []) := fun h' k hk => by
            have := h'.so_rows 0 at0 HW.out k (by rw [HN.out]; exact hk)
            rwa [HN.out] at this
          have R1 := rows h 0 (Nat.zero_le _)
          rw [Nat.zero_mul, Nat.add_zero, Nat.sub_zero] at R1
          have RR1 := Lib.hid R1
          have ROWS : Hid (∀ {w' : World}, Hp W w' [aSo g off cap As] [] → ∀ k, k ≤ n → RowsIn Try.prog w' [.int .u8, .int .u8, .int .u8, .int .u8, .int .i64, .int .i64, .int .i64, .int .i64, .int .i64, .int .i64, .int .i64, .int .i64, .bool, .int .i64, .int .i64, .int .i64, .int .i64, .int .i64, .bool, .bool, .int .i64] (some ⟨g, off + k * 21, none⟩) (n - k) g (off + k * 21) (fun i => ((As[k + i]?).map acs).getD [])) := Lib.hid rows
          have H := Lib.hid h
          have f1 : ¬ cap = 50 := by omega
          have f2 : ¬ cap = 60 := by omega
          clear hn rows R1 h
          go_upto_region 13 with (first | (go_at_call 5; (with_reducible refine (smatches_walk RR1.out (by omega)).mono ?_); rintro e w5 ⟨rfl, hbl⟩; have h1 := H.out.same hbl; clear hbl; have R2 := ROWS.out h1 50 (by omega); rw [show 50 * 21 = 1050 from rfl] at R2; have RR2 := Lib.hid R2; clear R2; have H1 := Lib.hid h1; clear h1) | (go_at_call 5; (with_reducible refine (smatches_walk RR2.out (by omega)).mono ?_); rintro e w6 ⟨rfl, hbl⟩; have h2 := H1.out.same hbl; clear hbl))
          go_wp2_with (first | (at_builtin; refine wpList_append_so rfl (.tmp 47) (.tmp 48) 47 rfl Try.underlying47 h2 0 at0 60 (by rw [HN.out]; omega) (by rw [HN.out]; omega) (by rw [HN.out]; rfl) (by rw [HN.out]; rfl) ?_))
          intro g' off' cap' w7 hcap' h3
          have hl2 : (As.drop 60 ++ As).length = n - 60 + n := by rw [List.length_append, List.length_drop, HN.out]
          have hwf2 : Hid (∀ a ∈ As.drop 60 ++ As, WfA a) := Lib.hid fun a ha => by
            rcases List.mem_append.1 ha with ha | ha
            · exact HW.out a (List.mem_of_mem_drop ha)
            · exact HW.out a ha
          have H3 := Lib.hid h3
          have HM := Lib.hid hl2
          rw [HN.out] at hcap' ⊢
          clear h3 h2 hl2
          go_wp2_with (fail)
          go_roundw
          case rel => exact ⟨c + 1, g', off', cap', As.drop 60 ++ As, by rw [HM.out], by go_num, by omega, by rw [HM.out]; omega, hwf2, H3.out⟩
          case measure => simp [intOf]; omega
        · have hc2f : ¬ (c : Int) < 2 := by omega
          have H := (Lib.hid h.tail)
          clear h
          go_wp2_with (first | (go_at_call 17; (with_reducible refine (get_nil 0 _).mono ?_); rintro e w1 ⟨rfl, hbl⟩; have h1 := ((H.out.same hbl).lost (pObj p00)).lost (sObj s00); clear hbl; simp only [pObj, sObj, p00, s00] at h1) | (go_at_call 23; (with_reducible refine (plain_s _).mono ?_); rintro e w2 ⟨rfl, hbl⟩; have h2 := h1.same hbl; clear h1 hbl) | (go_at_call 15; (with_reducible refine (puts_nil plS _).mono ?_); rintro e w3 ⟨rfl, hbl⟩; have h3 := h2.same hbl; clear h2 hbl) | (go_at_call 24; (with_reducible refine (plain_p _).mono ?_); rintro e w4 ⟨rfl, hbl⟩; have h4 := h3.same hbl; clear h3 hbl) | (go_at_call 16; (with_reducible refine (putp_nil plP _).mono ?_); rintro e w5 ⟨rfl, hbl⟩; have h5 := h4.same hbl; clear h4 hbl) | (go_at_call 22; (with_reducible refine (scopy_nil _).mono ?_); rintro e w6 ⟨rfl, rfl⟩) | (go_at_call 14; (with_reducible refine (awake_any h5).mono ?_); rintro e w7 ⟨rfl, h6⟩))
          exact bodyPost_ret (results_tmp rfl _ _ _) rfl ⟨rfl, h6.below⟩

end Go.Proofs.Ytakpafmhdgnlmaa
