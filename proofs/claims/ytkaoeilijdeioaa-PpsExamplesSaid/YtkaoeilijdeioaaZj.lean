/- PpsExamples. -/
import Derived.Test.YtkaoeilijdeioaaZh
import Derived.Great.BuildSlice
import Derived.Deep.CutBlock
namespace Go.Proofs.Ytkaoeilijdeioaa
open Go.RowKit
set_option linter.unusedVariables false
set_option maxRecDepth 100000
set_option linter.unusedSimpArgs false

theorem wpList_buildSlice_v {P : Program} {ops : Array Oper} {rest : List Oper} {o : Oper} {a : Act} {w : World} {Q : Exit → Act → World → Prop} (hg : o.guard = none) (t e : TypeId) (len : Nat) (parts : Array (Nat × Operand)) (ho : o.op = .buildSlice t len parts)
    (cells : Array Value) (ie : TypeInfo) (z : Value)
    (hu : P.underlying t = some (.slice e)) (hie : P.info? e = some ie) (hz : ie.zero = some z) (hsmall : ¬ len * ie.size > 2 ^ 24) (hpos : ¬ len * ie.size = 0)
    {L : List (Nat × Value)} (hL : (parts.map fun (i, x) => (i, a.eval x)).toList = L) (hf : Instr.fill (fun i => some (i * ie.size, ie.size)) ((Array.range (len * ie.size)).map (z.cells[· % z.cells.size]!)) L = some cells)
    (h : wpList P ops Q rest (a.put o.dst (.slice (some ⟨w.heap.size, 0, none⟩) len len)) (w.alloc (.cells cells e))) : wpList P ops Q (o :: rest) a w :=
  wpList_buildSlice hg t e len parts ho cells ie z hu hie hz hsmall hpos (by rw [hL]; exact hf) h

theorem make30 (W' : World) : (Instr.makeSlice 36 (.int .i64 30) (.int .i64 30)).run Try.prog W' = .ok (.slice (some ⟨W'.heap.size, 0, none⟩) 30 30) (W'.alloc (.cells (madeCells #[.int .u8 0] 30) 5 (0, 0))) := by
  obtain ⟨ti, ti1, ti2, ti3, ti4⟩ := u8_info
  have := run_make (P := Try.prog) W' 36 5 ti (.int .u8 0) Try.underlying36 ti1 ti2 .i64 .i64 30 30 (by omega) (Int.le_refl _) (by rw [ti4]; omega) (by omega)
  rw [ti3] at this
  simpa [Value.cells] using this
theorem conv_zeros30 (w : World) : (convert 36 9 (.slice (some ⟨w.heap.size, 0, none⟩) 30 30)).run Try.prog (w.alloc (.cells (madeCells #[.int .u8 0] 30) 5 (0, 0))) = .ok (.string ⟨(List.replicate 30 (0 : UInt8)).toArray⟩) (w.alloc (.cells (madeCells #[.int .u8 0] 30) 5 (0, 0))) := by
  rw [made_bytes]
  have := run_convert_bytes_back (P := Try.prog) (w.alloc (.cells ((List.replicate 30 (0 : UInt8)).map bv).toArray 5 (0, 0))) 36 9 5 ⟨w.heap.size, 0, none⟩ 30 (List.replicate 30 0) Try.underlying36 Try.underlying5 Try.underlying9 (fun j hj => by
    rw [addr_add, World.cell?_alloc_mark]
    rw [List.length_replicate] at hj
    rw [List.getElem?_toArray, List.getElem?_map, List.getElem?_replicate, if_pos (by omega), List.getElem_replicate]
    rfl)
  rw [List.length_replicate] at this
  exact this
@[reducible] def endsO : Obj := .cells #[.int .i64 (-9223372036854775808), .int .i64 (-27), .int .i64 (-26), .int .i64 (-13), .int .i64 (-12), .int .i64 (-1), .int .i64 0, .int .i64 1, .int .i64 12, .int .i64 13, .int .i64 25, .int .i64 26, .int .i64 31, .int .i64 32, .int .i64 33, .int .i64 9223372036854775807] 3 (0, 0)
theorem ends_cell {w : World} {q : Nat} (h : w.heap[q]? = some endsO) {c : Nat} (hc : c < 16) : ∃ n : Int, In64 n ∧ w.cell? ⟨q, c, none⟩ = some (.int .i64 n) := by
  obtain rfl | rfl | rfl | rfl | rfl | rfl | rfl | rfl | rfl | rfl | rfl | rfl | rfl | rfl | rfl | rfl : c = 0 ∨ c = 1 ∨ c = 2 ∨ c = 3 ∨ c = 4 ∨ c = 5 ∨ c = 6 ∨ c = 7 ∨ c = 8 ∨ c = 9 ∨ c = 10 ∨ c = 11 ∨ c = 12 ∨ c = 13 ∨ c = 14 ∨ c = 15 := by omega
  · exact ⟨(-9223372036854775808), ⟨by decide, by decide⟩, by simp [World.cell?, h]⟩
  · exact ⟨(-27), ⟨by decide, by decide⟩, by simp [World.cell?, h]⟩
  · exact ⟨(-26), ⟨by decide, by decide⟩, by simp [World.cell?, h]⟩
  · exact ⟨(-13), ⟨by decide, by decide⟩, by simp [World.cell?, h]⟩
  · exact ⟨(-12), ⟨by decide, by decide⟩, by simp [World.cell?, h]⟩
  · exact ⟨(-1), ⟨by decide, by decide⟩, by simp [World.cell?, h]⟩
  · exact ⟨0, ⟨by decide, by decide⟩, by simp [World.cell?, h]⟩
  · exact ⟨1, ⟨by decide, by decide⟩, by simp [World.cell?, h]⟩
  · exact ⟨12, ⟨by decide, by decide⟩, by simp [World.cell?, h]⟩
  · exact ⟨13, ⟨by decide, by decide⟩, by simp [World.cell?, h]⟩
  · exact ⟨25, ⟨by decide, by decide⟩, by simp [World.cell?, h]⟩
  · exact ⟨26, ⟨by decide, by decide⟩, by simp [World.cell?, h]⟩
  · exact ⟨31, ⟨by decide, by decide⟩, by simp [World.cell?, h]⟩
  · exact ⟨32, ⟨by decide, by decide⟩, by simp [World.cell?, h]⟩
  · exact ⟨33, ⟨by decide, by decide⟩, by simp [World.cell?, h]⟩
  · exact ⟨9223372036854775807, ⟨by decide, by decide⟩, by simp [World.cell?, h]⟩
set_option maxHeartbeats 16000000 in
theorem pexamples_walk (W : World) : Calls Try.prog 5 #[] W fun e w' => e = .returned (.bool true) ∧ Below W.heap.size W w' := by
  obtain ⟨ti, ti0, ti1, ti2, ti3⟩ := pps_info
  have hS30 : (⟨(List.replicate 30 (0 : UInt8)).toArray⟩ : ByteArray).size ≤ maxLen := by unfold maxLen; decide
  have H := Lib.hid (Hp.start W)
  go_enter Try.func5, Try.ntmps5
  go_wp2_with (fail)
  have H1 := Lib.hid (H.out.alloc endsO)
  clear H
  generalize W.heap.size = qe at *
  go_loopw [2] (fun i wr => ∃ c : Nat, i = .int .i64 c ∧ c ≤ 16 ∧ Hp W wr [] [(qe, endsO)]) (fun i _ => 16 - (intOf i).toNat)
  case atStart => exact ⟨0, rfl, by omega, H1.out⟩
  case round =>
    obtain ⟨c, rfl, hc, g⟩ := hrel
    clear H1
    by_cases hlt : c < 16
    · obtain ⟨n, hn, cn⟩ := ends_cell (g.blk (List.mem_cons_self ..)) hlt
      have N64 := Lib.hid hn
      clear hn
      go_upto_region 8 with (first | (go_at_call 16; (with_reducible refine (plain_w g).mono ?_); rintro e w1 ⟨rfl, h1⟩; clear g) | (go_at_call 16; (with_reducible refine (plain_w h1).mono ?_); rintro e w2 ⟨rfl, h2⟩; clear h1) | (go_at_call 16; (with_reducible refine (plain_w h2).mono ?_); rintro e w3 ⟨rfl, h3⟩; clear h2) | (go_at_call 16; (with_reducible refine (plain_w h3).mono ?_); rintro e w4 ⟨rfl, h4⟩; clear h3) | (go_at_call 16; (with_reducible refine (plain_w h4).mono ?_); rintro e w5 ⟨rfl, h5⟩; clear h4) | (go_at_call 16; (with_reducible refine (plain_w h5).mono ?_); rintro e w6 ⟨rfl, h6⟩; clear h5) | (go_at_call 16; (with_reducible refine (plain_w h6).mono ?_); rintro e w7 ⟨rfl, h7⟩; clear h6))
      have h14 := (((((((h7.alloc (pOb ⟨n, 0, false, 1, 1, 0, 0, 0, false, false⟩)).alloc (pOb ⟨0, n, false, 1, 1, 0, 0, 0, false, false⟩)).alloc (pOb ⟨0, 0, false, n, 1, 0, 0, 0, false, false⟩)).alloc (pOb ⟨0, 0, false, 1, n, 0, 0, 0, false, false⟩)).alloc (pOb ⟨0, 0, false, 1, 1, n, 0, 0, false, false⟩)).alloc (pOb ⟨0, 0, false, 1, 1, 0, n, 0, false, false⟩)).alloc (pOb ⟨0, 0, false, 1, 1, 0, 0, n, false, false⟩))
      simp only [World.size_alloc] at h14
      clear h7
      generalize (((((((w7.alloc (.cells #[.int .i64 n, .int .i64 0, .bool false, .int .i64 1, .int .i64 1, .int .i64 0, .int .i64 0, .int .i64 0, .bool false, .bool false] 23 (0, 0))).alloc (.cells #[.int .i64 0, .int .i64 n, .bool false, .int .i64 1, .int .i64 1, .int .i64 0, .int .i64 0, .int .i64 0, .bool false, .bool false] 23 (0, 0))).alloc (.cells #[.int .i64 0, .int .i64 0, .bool false, .int .i64 n, .int .i64 1, .int .i64 0, .int .i64 0, .int .i64 0, .bool false, .bool false] 23 (0, 0))).alloc (.cells #[.int .i64 0, .int .i64 0, .bool false, .int .i64 1, .int .i64 n, .int .i64 0, .int .i64 0, .int .i64 0, .bool false, .bool false] 23 (0, 0))).alloc (.cells #[.int .i64 0, .int .i64 0, .bool false, .int .i64 1, .int .i64 1, .int .i64 n, .int .i64 0, .int .i64 0, .bool false, .bool false] 23 (0, 0))).alloc (.cells #[.int .i64 0, .int .i64 0, .bool false, .int .i64 1, .int .i64 1, .int .i64 0, .int .i64 n, .int .i64 0, .bool false, .bool false] 23 (0, 0))).alloc (.cells #[.int .i64 0, .int .i64 0, .bool false, .int .i64 1, .int .i64 1, .int .i64 0, .int .i64 0, .int .i64 n, .bool false, .bool false] 23 (0, 0))) = w8 at h14 ⊢
      generalize w7.heap.size = p at *
      obtain ⟨ac0, ac1, ac2, ac3, ac4, ac5, ac6, ac7, ac8, ac9⟩ := pOb_cells (x := ⟨n, 0, false, 1, 1, 0, 0, 0, false, false⟩) (h14.blk (List.mem_cons_of_mem _ (List.mem_cons_of_mem _ mem4)))
      obtain ⟨bc0, bc1, bc2, bc3, bc4, bc5, bc6, bc7, bc8, bc9⟩ := pOb_cells (x := ⟨0, n, false, 1, 1, 0, 0, 0, false, false⟩) (h14.blk (List.mem_cons_of_mem _ mem4))
      obtain ⟨cc0, cc1, cc2, cc3, cc4, cc5, cc6, cc7, cc8, cc9⟩ := pOb_cells (x := ⟨0, 0, false, n, 1, 0, 0, 0, false, false⟩) (h14.blk mem4)
      obtain ⟨dc0, dc1, dc2, dc3, dc4, dc5, dc6, dc7, dc8, dc9⟩ := pOb_cells (x := ⟨0, 0, false, 1, n, 0, 0, 0, false, false⟩) (h14.blk mem3)
      obtain ⟨ec0, ec1, ec2, ec3, ec4, ec5, ec6, ec7, ec8, ec9⟩ := pOb_cells (x := ⟨0, 0, false, 1, 1, n, 0, 0, false, false⟩) (h14.blk mem2)
      obtain ⟨fc0, fc1, fc2, fc3, fc4, fc5, fc6, fc7, fc8, fc9⟩ := pOb_cells (x := ⟨0, 0, false, 1, 1, 0, n, 0, false, false⟩) (h14.blk mem1)
      obtain ⟨zc0, zc1, zc2, zc3, zc4, zc5, zc6, zc7, zc8, zc9⟩ := pOb_cells (x := ⟨0, 0, false, 1, 1, 0, 0, n, false, false⟩) (h14.blk (List.mem_cons_self ..))
      have G := Lib.hid h14
      clear h14
      obtain ⟨xs, hxs⟩ : ∃ xs : List PpsD, xs = [(⟨n, 0, false, 1, 1, 0, 0, 0, false, false⟩ : PpsD), (⟨0, n, false, 1, 1, 0, 0, 0, false, false⟩ : PpsD), (⟨0, 0, false, n, 1, 0, 0, 0, false, false⟩ : PpsD), (⟨0, 0, false, 1, n, 0, 0, 0, false, false⟩ : PpsD), (⟨0, 0, false, 1, 1, n, 0, 0, false, false⟩ : PpsD), (⟨0, 0, false, 1, 1, 0, n, 0, false, false⟩ : PpsD), (⟨0, 0, false, 1, 1, 0, 0, n, false, false⟩ : PpsD)] := ⟨_, rfl⟩
      have XL := Lib.hid (show xs.length = 7 by rw [hxs]; rfl)
      have HX := Lib.hid hxs
      clear hxs
      go_upto_region 9 with (first | ((with_reducible change wpList _ _ _ ({ dst := _, op := Op.buildSlice _ _ _, type := _, pos := _, after := _, guard := _ } :: _) _ _); refine wpList_buildSlice_v rfl 35 23 7 #[(0, .tmp 49), (1, .tmp 50), (2, .tmp 51), (3, .tmp 52), (4, .tmp 53), (5, .tmp 54), (6, .tmp 55)] rfl (xs.flatMap pCs).toArray ti (pv p00) Try.underlying35 ti0 ti1 (by rw [ti2]; decide) (by rw [ti2]; decide) (L := [(0, .agg #[.int .i64 n, .int .i64 0, .bool false, .int .i64 1, .int .i64 1, .int .i64 0, .int .i64 0, .int .i64 0, .bool false, .bool false]), (1, .agg #[.int .i64 0, .int .i64 n, .bool false, .int .i64 1, .int .i64 1, .int .i64 0, .int .i64 0, .int .i64 0, .bool false, .bool false]), (2, .agg #[.int .i64 0, .int .i64 0, .bool false, .int .i64 n, .int .i64 1, .int .i64 0, .int .i64 0, .int .i64 0, .bool false, .bool false]), (3, .agg #[.int .i64 0, .int .i64 0, .bool false, .int .i64 1, .int .i64 n, .int .i64 0, .int .i64 0, .int .i64 0, .bool false, .bool false]), (4, .agg #[.int .i64 0, .int .i64 0, .bool false, .int .i64 1, .int .i64 1, .int .i64 n, .int .i64 0, .int .i64 0, .bool false, .bool false]), (5, .agg #[.int .i64 0, .int .i64 0, .bool false, .int .i64 1, .int .i64 1, .int .i64 0, .int .i64 n, .int .i64 0, .bool false, .bool false]), (6, .agg #[.int .i64 0, .int .i64 0, .bool false, .int .i64 1, .int .i64 1, .int .i64 0, .int .i64 0, .int .i64 n, .bool false, .bool false])]) (by simp [Act.eval, Act.put]) (by rw [ti2, HX.out]; exact fill7 ⟨n, 0, false, 1, 1, 0, 0, 0, false, false⟩ ⟨0, n, false, 1, 1, 0, 0, 0, false, false⟩ ⟨0, 0, false, n, 1, 0, 0, 0, false, false⟩ ⟨0, 0, false, 1, n, 0, 0, 0, false, false⟩ ⟨0, 0, false, 1, 1, n, 0, 0, false, false⟩ ⟨0, 0, false, 1, 1, 0, n, 0, false, false⟩ ⟨0, 0, false, 1, 1, 0, 0, n, false, false⟩) ?_))
      clear ac0 ac1 ac2 ac3 ac4 ac5 ac6 ac7 ac8 ac9 bc0 bc1 bc2 bc3 bc4 bc5 bc6 bc7 bc8 bc9 cc0 cc1 cc2 cc3 cc4 cc5 cc6 cc7 cc8 cc9 dc0 dc1 dc2 dc3 dc4 dc5 dc6 dc7 dc8 dc9 ec0 ec1 ec2 ec3 ec4 ec5 ec6 ec7 ec8 ec9 fc0 fc1 fc2 fc3 fc4 fc5 fc6 fc7 fc8 fc9 zc0 zc1 zc2 zc3 zc4 zc5 zc6 zc7 zc8 zc9
      have h9 := G.out.drop.drop.drop.drop.drop.drop.drop.alloc (lOb xs)
      clear G HX
      change Hp W (w8.alloc (.cells (xs.flatMap pCs).toArray 23 (0, 0))) [] _ at h9
      generalize (w8.alloc (.cells (xs.flatMap pCs).toArray 23 (0, 0))) = w9 at h9 ⊢
      generalize w8.heap.size = ql at *
      have HL := Lib.hid (And.intro h9 XL.out)
      clear h9 cn XL
      go_wp2_with (fail)
      go_loopw [12] (fun i wr => ∃ (k : Nat) (ys : List PpsD), i = .int .i64 k ∧ k ≤ 7 ∧ ys.length = 7 ∧ Hp W wr [] [(ql, lOb ys), (qe, endsO)]) (fun i _ => 7 - (intOf i).toNat)
      case atStart => exact ⟨0, xs, rfl, by omega, HL.out.2, HL.out.1⟩
      case round =>
        obtain ⟨k, ys, rfl, hk, hy, g⟩ := hrel
        clear HL
        have YL := Lib.hid hy
        by_cases hk7 : k < 7
        · obtain ⟨x0, hx0⟩ : ∃ x, ys[k]? = some x := ⟨_, List.getElem?_eq_getElem (by rw [hy]; exact hk7)⟩
          obtain ⟨ci, hci⟩ : ∃ n : Nat, n = c % 2 := ⟨_, rfl⟩
          obtain ⟨di, hdi⟩ : ∃ n : Nat, n = c % 3 := ⟨_, rfl⟩
          obtain ⟨ki, hki⟩ : ∃ n : Nat, n = k % 2 := ⟨_, rfl⟩
          have t1 : Int.tmod (c : Int) 2 = (ci : Int) := by rw [Int.tmod_eq_emod_of_nonneg (by omega)]; omega
          have t2 : Int.tmod (c : Int) 3 = (di : Int) := by rw [Int.tmod_eq_emod_of_nonneg (by omega)]; omega
          have t3 : Int.tmod (k : Int) 2 = (ki : Int) := by rw [Int.tmod_eq_emod_of_nonneg (by omega)]; omega
          have t4 : (c : Int) % 2 = (ci : Int) := by omega
          have t5 : (c : Int) % 3 = (di : Int) := by omega
          have t6 : (k : Int) % 2 = (ki : Int) := by omega
          have HK0 := Lib.hid hx0
          obtain ⟨s0, s1, s2, s3, s4, s5, s6, s7, s8, s9⟩ := lOb_cells (g.blk (List.mem_cons_self ..)) HK0.out
          have f2 := lOb_free (g.blk (List.mem_cons_self ..)) (k * 10 + 2)
          have f8 := lOb_free (g.blk (List.mem_cons_self ..)) (k * 10 + 8)
          have f9 := lOb_free (g.blk (List.mem_cons_self ..)) (k * 10 + 9)
          clear hx0 hy hci hdi hki
          go_upto_region 13 with (fail)
          have g2 := g.l3 HK0.out ((ci : Int) == 0) ((di : Int) == 0) ((ki : Int) == 0)
          obtain ⟨zs, hzs⟩ : ∃ zs, zs = ys.set k ⟨x0.id, x0.sps, (ci : Int) == 0, x0.refs, x0.refs1, x0.qp, x0.qs, x0.ch, (di : Int) == 0, (ki : Int) == 0⟩ := ⟨_, rfl⟩
          have HZ : zs[k]? = some ⟨x0.id, x0.sps, (ci : Int) == 0, x0.refs, x0.refs1, x0.qp, x0.qs, x0.ch, (di : Int) == 0, (ki : Int) == 0⟩ := by rw [hzs]; exact List.getElem?_set_self (by rw [YL.out]; exact hk7)
          have ZL : zs.length = 7 := by rw [hzs, List.length_set]; exact YL.out
          rw [← hzs] at g2
          clear g hzs s0 s1 s2 s3 s4 s5 s6 s7 s8 s9 f2 f8 f9 HK0 YL
          generalize ((World.setCell (World.setCell (World.setCell _ _ _) _ _) _ _)) = wz at g2 ⊢
          obtain ⟨x, hx, hxz⟩ : ∃ x, zs[k]? = some x ∧ x = x := ⟨_, HZ, rfl⟩
          clear HZ hxz
          have HK := Lib.hid hx
          have ZLh := Lib.hid ZL
          obtain ⟨S, hS⟩ : ∃ S, pPay x = S := ⟨_, rfl⟩
          obtain ⟨er, he⟩ : ∃ e, pErr x = e := ⟨_, rfl⟩
          have sz : S.size ≤ 11 := by rw [← hS]; exact pay_small x
          have KS := Lib.hid (And.intro hS he)
          clear hx hS he ZL
          obtain ⟨id, sp, cab, rf, rf1, qp, qs, ch, deb, intr⟩ := x
          obtain ⟨s0, s1, s2, s3, s4, s5, s6, s7, s8, s9⟩ := lOb_cells (x := ⟨id, sp, cab, rf, rf1, qp, qs, ch, deb, intr⟩) (g2.blk (List.mem_cons_self ..)) HK.out
          go_upto_region 16 with (first | (go_at_call 3; (with_reducible refine (pmatches_any g2 ⟨id, sp, cab, rf, rf1, qp, qs, ch, deb, intr⟩).mono ?_); rintro e w10 ⟨rfl, h1⟩; clear g2 s0 s1 s2 s3 s4 s5 s6 s7 s8 s9; obtain ⟨s0, s1, s2, s3, s4, s5, s6, s7, s8, s9⟩ := lOb_cells (x := ⟨id, sp, cab, rf, rf1, qp, qs, ch, deb, intr⟩) (h1.blk (List.mem_cons_self ..)) HK.out) | (go_at_call 9; (with_reducible refine (penc_as h1 ⟨id, sp, cab, rf, rf1, qp, qs, ch, deb, intr⟩ KS.out).mono ?_); rintro e w11 ⟨rfl, h2⟩; clear h1 s0 s1 s2 s3 s4 s5 s6 s7 s8 s9))
          have HL3 := Lib.hid h2
          clear h2
          go_wp2_with (fail)
          have w8s : IntKind.i64.wrap (8 * (S.size : Int)) = 8 * (S.size : Int) := by rw [IntKind.wrap_i64]; omega
          go_loopw [15] (fun a wr => ∃ j : Nat, a = .int .i64 j ∧ j ≤ 8 * S.size ∧ Hp W wr [] [(ql, lOb zs), (qe, endsO)]) (fun a _ => 8 * S.size - (intOf a).toNat)
          case atStart => exact ⟨0, rfl, by omega, HL3.out⟩
          case round =>
            obtain ⟨j, rfl, hj, g⟩ := hrel
            clear HL3
            by_cases hlt3 : j < 8 * S.size
            · obtain ⟨i, hi⟩ : ∃ i : Nat, i = j / 8 := ⟨_, rfl⟩
              obtain ⟨m, hm⟩ : ∃ m : Nat, m = j % 8 := ⟨_, rfl⟩
              have i1 : Int.tdiv (j : Int) 8 = (i : Int) := by rw [Int.tdiv_eq_ediv_of_nonneg (by omega)]; omega
              have i2 : (j : Int) / 8 = (i : Int) := by omega
              have i3 : Int.tmod (j : Int) 8 = (m : Int) := by rw [Int.tmod_eq_emod_of_nonneg (by omega)]; omega
              have i4 : (j : Int) % 8 = (m : Int) := by omega
              have i5 : i < S.size := by omega
              have i6 : m < 8 := by omega
              obtain ⟨P, hP, lP⟩ := shl_lt m i6
              have hc1 : ∀ w : World, (convert 9 36 (.string S)).run Try.prog w = .ok (.slice (some ⟨w.heap.size, 0, none⟩) S.size (grownCap w S.size 0 5)) (w.drew.alloc (.cells (bytesRow S (grownCap w S.size 0 5)) 5 ((bytesRow S (grownCap w S.size 0 5)).size, (bytesRow S (grownCap w S.size 0 5)).size + 1))) := fun w => run_bytes_of_string w 9 36 5 S Try.underlying9 Try.underlying36 Try.underlying5
              clear hi hm
              go_upto_region 20 with (fail)
              generalize hv : World.drew (wr.alloc _) = v
              have hb : ∀ j (hj : j < S.data.size), v.cell? ⟨wr.heap.size, j, none⟩ = some (.int .u8 (S.data[j].toNat : Int)) ∧ v.frozen? ⟨wr.heap.size, j, none⟩ = false := fun j hj => bytes_cells (w := wr) (S := S) (cap := grownCap wr S.size 0 5) (t := 5) (v := v) (by rw [← hv]; rfl) j hj
              have BV : Below wr.heap.size wr v := by rw [← hv]; exact ((Below.refl _ _).alloc (Nat.le_refl _) _).drew
              clear hv hc1
              have i7 : i < S.data.size := i5
              obtain ⟨Y, hY⟩ : ∃ Y : Nat, S.data[i].toNat = Y := ⟨_, rfl⟩
              have lY : Y < 256 := by rw [← hY]; exact UInt8.toNat_lt _
              obtain ⟨Z, hZ⟩ : ∃ Z : Nat, Y ^^^ P = Z := ⟨_, rfl⟩
              have lZ : Z < 256 := by rw [← hZ]; exact Nat.xor_lt_two_pow (n := 8) lY lP
              have hxor : bits .xor .u8 (Y : Int) (P : Int) = (Z : Int) := by rw [u8_xor_nat Y P lY lP, hZ]
              obtain ⟨D, hD, hcv⟩ := flip_conv (v := v) (q := wr.heap.size) (cap := grownCap wr S.size 0 5) (i := i) (x := Z) (S := S) i7 lZ (fun j hj => (hb j hj).1)
              have KD := Lib.hid (show D.size ≤ maxLen by rw [hD]; unfold maxLen; omega)
              have KE := Lib.hid (show (S.extract 0 i).size ≤ maxLen by rw [ByteArray.size_extract]; unfold maxLen; omega)
              have h3 := Lib.hid (g.same (BV.setCell (p := ⟨wr.heap.size, i, none⟩) (Nat.le_refl _) (.int .u8 (Z : Int))))
              obtain ⟨cy, fy⟩ := hb i i7
              rw [hY] at cy
              clear hb BV g hY hZ lY lP lZ hD
              generalize grownCap wr S.size 0 5 = cap at *
              generalize wr.heap.size = q at *
              go_wp2_with (first | (go_at_call 4; (with_reducible refine (preads_any h3.out D KD.out).mono ?_); rintro e w12 ⟨rfl, h4⟩) | (go_at_call 4; (with_reducible refine (preads_any h4 (S.extract 0 i) KE.out).mono ?_); rintro e w13 ⟨rfl, h5⟩; clear h4))
              go_roundw
              case rel => exact ⟨j + 1, by go_num, by omega, h5⟩
              case measure => simp [intOf]; omega
            · have hje : ¬ ((j : Int) < 8 * (S.size : Int)) := by omega
              have G := Lib.hid g
              clear g
              go_wp2_with (fail)
              go_roundw
              case rel => exact ⟨k + 1, zs, by go_num, by omega, ZLh.out, G.out⟩
              case measure => simp [intOf]; omega
        · have hke : ¬ ((k : Int) < 7) := by omega
          have G := Lib.hid g
          clear g
          go_wp2_with (fail)
          go_roundw
          case rel => exact ⟨c + 1, by go_num, by omega, G.out.drop⟩
          case measure => simp [intOf]; omega
    · have hce : ¬ ((c : Int) < 16) := by omega
      have hmk : ∀ W' : World, (Instr.makeSlice 36 (.int .i64 30) (.int .i64 30)).run Try.prog W' = .ok (.slice (some ⟨W'.heap.size, 0, none⟩) 30 30) (W'.alloc (.cells (madeCells #[.int .u8 0] 30) 5 (0, 0))) := fun W' => make30 W'
      have hcv := fun w => conv_zeros30 w
      have KZ := Lib.hid hS30
      have KN := Lib.hid (show (⟨#[]⟩ : ByteArray).size ≤ maxLen by unfold maxLen; decide)
      generalize (⟨(List.replicate 30 (0 : UInt8)).toArray⟩ : ByteArray) = Z30 at *
      have G := Lib.hid g
      clear g hS30
      go_wp2_with (first | (go_at_call 4; (with_reducible refine (preads_any G.out ⟨#[]⟩ KN.out).mono ?_); rintro e w1 ⟨rfl, h1⟩) | (go_at_call 4; (with_reducible refine (preads_any (h1.lost _) Z30 KZ.out).mono ?_); rintro e w2 ⟨rfl, h2⟩) | (go_at_call 3; (with_reducible refine (pmatches_any h2 p00).mono ?_); rintro e w3 ⟨rfl, h3⟩) | (go_at_call 13; (with_reducible refine (awake_any7 h3).mono ?_); rintro e w4 ⟨rfl, h4⟩))
      exact bodyPost_ret (results_tmp rfl _ _ _) rfl ⟨rfl, h4.below⟩
end Go.Proofs.Ytkaoeilijdeioaa
