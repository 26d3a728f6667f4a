/- The reference's store. -/
import Derived.Test.YtakpafmhdgnlmaaSe
import Derived.Test.YtakpafmhdgnlmaaSb
import Derived.Test.YtakpafmhdgnlmaaSl
import Derived.Deep.RegionLaw
namespace Go.Proofs.Ytakpafmhdgnlmaa
open Go.RowKit
set_option linter.unusedVariables false
set_option maxRecDepth 100000
set_option linter.unusedSimpArgs false

/-- append of news to the k-th object, in a region that draws. -/
theorem step_append_hp {W w : World} {L : List AObj} {F : List (Nat × Obj)} {ops : Array Oper} {o : Oper} {a : Act} {K : Act → World → Prop} {Q : Exit → Act → World → Prop} {E : Prop} (hgd : o.guard = none) (s x : Operand) (t : TypeId)
    (ho : o.op = .call { callee := .builtin .append, args := #[s, x], argTypes := #[t, t] })
    (e : TypeId) (i : TypeInfo) (z : Value) (size bytes : Nat) (ht : Try.prog.underlying t = some (.slice e)) (hi : Try.prog.info? e = some i) (hz : i.zero = some z)
    (hsize : i.size = size) (hby : i.bytes = bytes) (hzs : z.cells.size = size) (hsz : 0 < size)
    {v : Value} {n : Nat} {xs : List Value} (h : Hp W w L F) (k : Nat) (hk : L[k]? = some (aSl e size v n xs)) (hs : a.eval s = v)
    (ad : Addr) (m c : Nat) (news : List Value) (hx : a.eval x = .slice (some ad) m c) (hl : news.length = m * size) (hnews : ∀ j u, news[j]? = some u → w.cell? (ad.add j) = some u) (h1 : ∀ u ∈ news, u.oneCell' = true)
    (h63 : n + m ≤ maxLen) (hbytes : (n + m) * bytes ≤ 140737488355328)
    (hK : ∀ v' w', Hp W w' (L.set k (aSl e size v' (n + m) (xs ++ news))) F → K (a.put o.dst v') w') :
    if Region.wanted o (yielded ops a.tmps) = true then Oper.wp Try.prog o a w K Q else E := by
  have hw : Region.wanted o (yielded ops a.tmps) = true := by simp [Region.wanted, hgd]
  rw [if_pos hw]
  obtain ⟨v', w', hr, h2, h3, h4, h5⟩ := run_append_own_at (P := Try.prog) w 0 t o.type e i z size bytes ht hi hz hsize hby hzs hsz v n xs (h.sl k hk) ad m c news hl hnews h1 h63 hbytes (Nat.zero_le _)
  unfold Oper.wp execOp
  simp only [ho, resolve, invoke, builtin, Sem.run_bind, Sem.run_pure, Result.andThen_ok, List.map_toArray, List.map_cons, List.map_nil, hs, hx, hr]
  exact hK v' w' (h.sl_grow k hk h2 h3 h5)

def rsObj (u v : Value) : Obj := .cells #[u, v] 76 (0, 0)
@[reducible] def scs (x : SpsD) : List Value := [.int .u8 x.pr, .int .u8 x.fl, .int .u8 x.le, .int .i64 x.id, .int .i64 x.fb, .int .i64 x.pb, .int .i64 x.refs, .int .i64 x.w, .int .i64 x.h]
@[reducible] def pcs (x : PpsD) : List Value := [.int .i64 x.id, .int .i64 x.sps, .bool x.cab, .int .i64 x.refs, .int .i64 x.refs1, .int .i64 x.qp, .int .i64 x.qs, .int .i64 x.ch, .bool x.deb, .bool x.intra]
theorem sps_info : ∃ i : TypeInfo, Try.prog.info? 29 = some i ∧ i.zero = some (sv s00) ∧ i.size = 9 ∧ i.bytes = 56 := by
  obtain ⟨i, h, h0, h1, h2⟩ := info_parts (show (Try.prog.info? 29).map (fun i => (i.zero, i.size, i.bytes)) = some (some (sv s00), 9, 56) by kernel_rfl)
  exact ⟨i, h, h0, h1, h2⟩
theorem pps_info : ∃ i : TypeInfo, Try.prog.info? 26 = some i ∧ i.zero = some (pv p00) ∧ i.size = 10 ∧ i.bytes = 72 := by
  obtain ⟨i, h, h0, h1, h2⟩ := info_parts (show (Try.prog.info? 26).map (fun i => (i.zero, i.size, i.bytes)) = some (some (pv p00), 10, 72) by kernel_rfl)
  exact ⟨i, h, h0, h1, h2⟩

theorem rnew_any {W w : World} {L : List AObj} {F : List (Nat × Obj)} (h : Hp W w L F) :
    Calls Try.prog 18 #[] w fun e w' => ∃ b, e = .returned (.pointer (some ⟨b, 0, none⟩)) ∧ Hp W w' (aOb b (rsObj (.slice none 0 0) (.slice none 0 0)) :: aSl 29 9 (.slice none 0 0) 0 [] :: aSl 26 10 (.slice none 0 0) 0 [] :: L) F := by
  have h2 := ((h.sl_nil 26 10).sl_nil 29 9).ob_new (rsObj (.slice none 0 0) (.slice none 0 0))
  have H := Lib.hid h2
  clear h h2
  go_enter Try.func18, Try.ntmps18
  go_wp2_with (fail)
  exact bodyPost_ret (results_tmp rfl _ _ _) rfl ⟨_, rfl, H.out⟩

theorem row_new (w : World) (cs : List Value) (t : TypeId) : ∀ j u, cs[j]? = some u → (w.alloc (.cells cs.toArray t (0, 0))).cell? ((⟨w.heap.size, 0, none⟩ : Addr).add j) = some u := by
  intro j u hu
  have e : ((⟨w.heap.size, 0, none⟩ : Addr).add j) = ⟨w.heap.size, j, none⟩ := by unfold Addr.add; split <;> simp_all
  rw [e]
  simp only [World.cell?, blk0 w]
  simpa using hu
theorem scs_one (x : SpsD) : ∀ u ∈ scs x, u.oneCell' = true := by
  intro u hu
  simp only [scs, List.mem_cons, List.not_mem_nil, or_false] at hu
  rcases hu with rfl | rfl | rfl | rfl | rfl | rfl | rfl | rfl | rfl <;> rfl
theorem pcs_one (x : PpsD) : ∀ u ∈ pcs x, u.oneCell' = true := by
  intro u hu
  simp only [pcs, List.mem_cons, List.not_mem_nil, or_false] at hu
  rcases hu with rfl | rfl | rfl | rfl | rfl | rfl | rfl | rfl | rfl | rfl <;> rfl

theorem rputs_ok {W w : World} {L : List AObj} {F : List (Nat × Obj)} {b n : Nat} {vs vp : Value} {xs : List Value} (h : Hp W w L F) (k j : Nat) (hkj : k ≠ j) (hk : L[k]? = some (aOb b (rsObj vs vp))) (hj : L[j]? = some (aSl 29 9 vs n xs)) (hn : n ≤ 1000) (x : SpsD) (hx : okS x = true) :
    Calls Try.prog 19 #[.pointer (some ⟨b, 0, none⟩), sv x] w fun e w' => e = .returned (.int .i64 0) ∧ ∃ v', Hp W w' ((L.set j (aSl 29 9 v' (n + 1) (xs ++ scs x))).set k (aOb b (rsObj v' vp))) F := by
  obtain ⟨ti, ti1, ti2, ti3, ti4⟩ := sps_info
  have hb := h.alloc (sObj x)
  obtain ⟨s0, s1, s2, s3, s4, s5, s6, s7, s8⟩ := s_cells (hb.blk (List.mem_cons_self ..))
  have hc : ∀ w, Calls Try.prog 29 #[sv x] w fun e w' => e = .returned (.int .i64 0) ∧ Below w.heap.size w w' := fun w => by have := rscheck_any x w; rwa [hx] at this
  have HB := Lib.hid hb
  have HC := Lib.hid hc
  have HK := Lib.hid hk
  simp only [sObj] at s0 s1 s2 s3 s4 s5 s6 s7 s8
  have HJ := Lib.hid hj
  have HX := Lib.hid (scs_one x)
  clear h hb hx hc hk hj
  go_enter Try.func19, Try.ntmps19
  go_wp2_with (first | (go_at_call 29; (with_reducible refine (HC.out _).mono ?_); rintro e w1 ⟨rfl, hbl⟩; have h1 := HB.out.same hbl))
  obtain ⟨t0, t1, t2, t3, t4, t5, t6, t7, t8⟩ := s_cells (h1.blk (List.mem_cons_self ..))
  obtain ⟨k0, k1, f0, f1⟩ := cells_two (h1.ob k HK.out)
  have H1 := Lib.hid h1
  clear h1
  obtain ⟨k2, k3, f2, f3⟩ := cells_two ((H1.out.lost (sObj x)).ob k HK.out)
  simp only [sObj] at k2 k3 f2 f3
  go_region_law (first | (refine step_append_hp rfl (.tmp 17) (.tmp 19) 73 rfl 29 ti (sv s00) 9 56 Try.underlying73 ti1 ti2 ti3 ti4 rfl (by decide) (H1.out.drew.lost _) j HJ.out (by simp [Act.eval, Act.put]) ⟨w1.heap.size, 0, none⟩ 1 1 (scs x) (by simp [Act.eval, Act.put]) rfl (row_new w1.drew (scs x) _) HX.out (by unfold maxLen; omega) (by omega) ?_; intro v2 w2 h2; obtain ⟨sp2, cap2, rfl, _, _⟩ := h2.sl_form j (set_at HJ.out _); have hk2 := (List.getElem?_set_ne (l := L) (a := aSl 29 9 (.slice sp2 (n + 1) cap2) (n + 1) (xs ++ scs x)) (fun e : j = k => hkj e.symm)).trans HK.out; have HK2 := Lib.hid hk2; obtain ⟨k0', k1', f0', f1'⟩ := cells_two (h2.ob k hk2); clear hk2) | (refine step_append_hp rfl (.tmp 17) (.tmp 19) 73 rfl 29 ti (sv s00) 9 56 Try.underlying73 ti1 ti2 ti3 ti4 rfl (by decide) ((H1.out.lost _).drew) j HJ.out (by simp [Act.eval, Act.put]) ⟨w1.heap.size, 0, none⟩ 1 1 (scs x) (by simp [Act.eval, Act.put]) rfl (row_new w1 (scs x) _) HX.out (by unfold maxLen; omega) (by omega) ?_; intro v2 w2 h2; obtain ⟨sp2, cap2, rfl, _, _⟩ := h2.sl_form j (set_at HJ.out _); have hk2 := (List.getElem?_set_ne (l := L) (a := aSl 29 9 (.slice sp2 (n + 1) cap2) (n + 1) (xs ++ scs x)) (fun e : j = k => hkj e.symm)).trans HK.out; have HK2 := Lib.hid hk2; obtain ⟨k0', k1', f0', f1'⟩ := cells_two (h2.ob k hk2); clear hk2))
  all_goals
    go_wp2_with (fail)
    refine bodyPost_ret (results_tmp rfl _ _ _) rfl ⟨rfl, .slice sp2 (n + 1) cap2, ?_⟩
    exact (h2.ob_turn k HK2.out ((OneBlk.refl _ _).set 0 _) (setCell_blk (h2.ob k HK2.out) 0 _)).drop
theorem rputs_bad {W w : World} {L : List AObj} {F : List (Nat × Obj)} {b : Nat} {vs vp : Value} (h : Hp W w L F) (k : Nat) (hk : L[k]? = some (aOb b (rsObj vs vp))) (x : SpsD) (hx : okS x = false) :
    Calls Try.prog 19 #[.pointer (some ⟨b, 0, none⟩), sv x] w fun e w' => e = .returned (.int .i64 3) ∧ Hp W w' L F := by
  have hb := h.alloc (sObj x)
  obtain ⟨s0, s1, s2, s3, s4, s5, s6, s7, s8⟩ := s_cells (hb.blk (List.mem_cons_self ..))
  have hc : ∀ w, Calls Try.prog 29 #[sv x] w fun e w' => e = .returned (.int .i64 3) ∧ Below w.heap.size w w' := fun w => by have := rscheck_any x w; rwa [hx] at this
  have HB := Lib.hid hb
  have HC := Lib.hid hc
  have HK := Lib.hid hk
  simp only [sObj] at s0 s1 s2 s3 s4 s5 s6 s7 s8
  clear h hb hx hc hk
  go_enter Try.func19, Try.ntmps19
  go_wp2_with (first | (go_at_call 29; (with_reducible refine (HC.out _).mono ?_); rintro e w1 ⟨rfl, hbl⟩; have h1 := HB.out.same hbl))
  exact bodyPost_ret (results_tmp rfl _ _ _) rfl ⟨rfl, h1.drop⟩
theorem rputp_ok {W w : World} {L : List AObj} {F : List (Nat × Obj)} {b n : Nat} {vs vp : Value} {xs : List Value} (h : Hp W w L F) (k j : Nat) (hkj : k ≠ j) (hk : L[k]? = some (aOb b (rsObj vs vp))) (hj : L[j]? = some (aSl 26 10 vp n xs)) (hn : n ≤ 1000) (x : PpsD) (hx : okP x = true) :
    Calls Try.prog 20 #[.pointer (some ⟨b, 0, none⟩), pv x] w fun e w' => e = .returned (.int .i64 0) ∧ ∃ v', Hp W w' ((L.set j (aSl 26 10 v' (n + 1) (xs ++ pcs x))).set k (aOb b (rsObj vs v'))) F := by
  obtain ⟨ti, ti1, ti2, ti3, ti4⟩ := pps_info
  have hb := h.alloc (pObj x)
  obtain ⟨s0, s1, s2, s3, s4, s5, s6, s7, s8, s9⟩ := p_cells (hb.blk (List.mem_cons_self ..))
  have hc : ∀ w, Calls Try.prog 30 #[pv x] w fun e w' => e = .returned (.int .i64 0) ∧ Below w.heap.size w w' := fun w => by have := rpcheck_any x w; rwa [hx] at this
  have HB := Lib.hid hb
  have HC := Lib.hid hc
  have HK := Lib.hid hk
  simp only [pObj] at s0 s1 s2 s3 s4 s5 s6 s7 s8 s9
  have HJ := Lib.hid hj
  have HX := Lib.hid (pcs_one x)
  clear h hb hx hc hk hj
  go_enter Try.func20, Try.ntmps20
  go_wp2_with (first | (go_at_call 30; (with_reducible refine (HC.out _).mono ?_); rintro e w1 ⟨rfl, hbl⟩; have h1 := HB.out.same hbl))
  obtain ⟨t0, t1, t2, t3, t4, t5, t6, t7, t8, t9⟩ := p_cells (h1.blk (List.mem_cons_self ..))
  obtain ⟨k0, k1, f0, f1⟩ := cells_two (h1.ob k HK.out)
  have H1 := Lib.hid h1
  clear h1
  obtain ⟨k2, k3, f2, f3⟩ := cells_two ((H1.out.lost (pObj x)).ob k HK.out)
  simp only [pObj] at k2 k3 f2 f3
  go_region_law (first | (refine step_append_hp rfl (.tmp 17) (.tmp 19) 74 rfl 26 ti (pv p00) 10 72 Try.underlying74 ti1 ti2 ti3 ti4 rfl (by decide) (H1.out.drew.lost _) j HJ.out (by simp [Act.eval, Act.put]) ⟨w1.heap.size, 0, none⟩ 1 1 (pcs x) (by simp [Act.eval, Act.put]) rfl (row_new w1.drew (pcs x) _) HX.out (by unfold maxLen; omega) (by omega) ?_; intro v2 w2 h2; obtain ⟨sp2, cap2, rfl, _, _⟩ := h2.sl_form j (set_at HJ.out _); have hk2 := (List.getElem?_set_ne (l := L) (a := aSl 26 10 (.slice sp2 (n + 1) cap2) (n + 1) (xs ++ pcs x)) (fun e : j = k => hkj e.symm)).trans HK.out; have HK2 := Lib.hid hk2; obtain ⟨k0', k1', f0', f1'⟩ := cells_two (h2.ob k hk2); clear hk2) | (refine step_append_hp rfl (.tmp 17) (.tmp 19) 74 rfl 26 ti (pv p00) 10 72 Try.underlying74 ti1 ti2 ti3 ti4 rfl (by decide) ((H1.out.lost _).drew) j HJ.out (by simp [Act.eval, Act.put]) ⟨w1.heap.size, 0, none⟩ 1 1 (pcs x) (by simp [Act.eval, Act.put]) rfl (row_new w1 (pcs x) _) HX.out (by unfold maxLen; omega) (by omega) ?_; intro v2 w2 h2; obtain ⟨sp2, cap2, rfl, _, _⟩ := h2.sl_form j (set_at HJ.out _); have hk2 := (List.getElem?_set_ne (l := L) (a := aSl 26 10 (.slice sp2 (n + 1) cap2) (n + 1) (xs ++ pcs x)) (fun e : j = k => hkj e.symm)).trans HK.out; have HK2 := Lib.hid hk2; obtain ⟨k0', k1', f0', f1'⟩ := cells_two (h2.ob k hk2); clear hk2))
  all_goals
    go_wp2_with (fail)
    refine bodyPost_ret (results_tmp rfl _ _ _) rfl ⟨rfl, .slice sp2 (n + 1) cap2, ?_⟩
    exact (h2.ob_turn k HK2.out ((OneBlk.refl _ _).set 1 _) (setCell_blk (h2.ob k HK2.out) 1 _)).drop
theorem rputp_bad {W w : World} {L : List AObj} {F : List (Nat × Obj)} {b : Nat} {vs vp : Value} (h : Hp W w L F) (k : Nat) (hk : L[k]? = some (aOb b (rsObj vs vp))) (x : PpsD) (hx : okP x = false) :
    Calls Try.prog 20 #[.pointer (some ⟨b, 0, none⟩), pv x] w fun e w' => e = .returned (.int .i64 3) ∧ Hp W w' L F := by
  have hb := h.alloc (pObj x)
  obtain ⟨s0, s1, s2, s3, s4, s5, s6, s7, s8, s9⟩ := p_cells (hb.blk (List.mem_cons_self ..))
  have hc : ∀ w, Calls Try.prog 30 #[pv x] w fun e w' => e = .returned (.int .i64 3) ∧ Below w.heap.size w w' := fun w => by have := rpcheck_any x w; rwa [hx] at this
  have HB := Lib.hid hb
  have HC := Lib.hid hc
  have HK := Lib.hid hk
  simp only [pObj] at s0 s1 s2 s3 s4 s5 s6 s7 s8 s9
  clear h hb hx hc hk
  go_enter Try.func20, Try.ntmps20
  go_wp2_with (first | (go_at_call 30; (with_reducible refine (HC.out _).mono ?_); rintro e w1 ⟨rfl, hbl⟩; have h1 := HB.out.same hbl))
  exact bodyPost_ret (results_tmp rfl _ _ _) rfl ⟨rfl, h1.drop⟩

end Go.Proofs.Ytakpafmhdgnlmaa
