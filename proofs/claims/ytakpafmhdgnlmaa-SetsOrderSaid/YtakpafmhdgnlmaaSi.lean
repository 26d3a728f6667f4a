/- The reference's store: Get. -/
import Derived.Test.YtakpafmhdgnlmaaSh
import Derived.Deep.RegionHeld3
namespace Go.Proofs.Ytakpafmhdgnlmaa
open Go.RowKit
set_option linter.unusedVariables false
set_option maxRecDepth 100000
set_option linter.unusedSimpArgs false

/-- The last one with a key. -/
def lastBy {α : Type} (key : α → Int) (l : List α) (k : Int) : Option α := l.foldl (fun acc x => if key x = k then some x else acc) none
theorem lastBy_snoc {α : Type} (key : α → Int) (l : List α) (x : α) (k : Int) : lastBy key (l ++ [x]) k = if key x = k then some x else lastBy key l k := by
  unfold lastBy; rw [List.foldl_append]; rfl
theorem lastBy_upd {α : Type} (key : α → Int) (l : List α) (x : α) : upd (lastBy key l) (key x) x = lastBy key (l ++ [x]) := by
  funext k
  rw [lastBy_snoc]
  unfold upd
  by_cases h : k = key x
  · rw [if_pos h, if_pos h.symm]
  · rw [if_neg h, if_neg (fun e => h e.symm)]
theorem lastBy_take {α : Type} (key : α → Int) (l : List α) {c : Nat} {x : α} (h : l[c]? = some x) (k : Int) : lastBy key (l.take (c + 1)) k = if key x = k then some x else lastBy key (l.take c) k := by
  obtain ⟨hc, hx⟩ := List.getElem?_eq_some_iff.1 h
  rw [List.take_succ_eq_append_getElem hc, hx, lastBy_snoc]
theorem flat_at {α : Type} (g : α → List Value) (m : Nat) (hm : ∀ x, (g x).length = m) : ∀ {l : List α} {c : Nat} {x : α}, l[c]? = some x → ∀ j, j < m → (l.flatMap g)[c * m + j]? = (g x)[j]?
  | a :: l, 0, x, h, j, hj => by
    simp at h
    subst h
    rw [List.flatMap_cons, List.getElem?_append_left (by rw [hm]; omega)]
    simp
  | a :: l, c + 1, x, h, j, hj => by
    have := flat_at g m hm (l := l) (c := c) (x := x) (by simpa using h) j hj
    rw [List.flatMap_cons, List.getElem?_append_right (by rw [hm, Nat.succ_mul]; omega), hm, ← this]
    congr 1
    rw [Nat.succ_mul]; omega
theorem scs_at {l : List SpsD} {c : Nat} {x : SpsD} (h : l[c]? = some x) (j : Nat) (hj : j < 9) : (l.flatMap scs)[c * 9 + j]? = (scs x)[j]? := flat_at scs 9 (fun _ => rfl) h j hj
theorem pcs_at {l : List PpsD} {c : Nat} {x : PpsD} (h : l[c]? = some x) (j : Nat) (hj : j < 10) : (l.flatMap pcs)[c * 10 + j]? = (pcs x)[j]? := flat_at pcs 10 (fun _ => rfl) h j hj

section
variable {W w : World} {L : List AObj} {F : List (Nat × Obj)} {n cap : Nat} {sp : Option Addr}
theorem Hp.s_row {l : List SpsD} (h : Hp W w L F) (k : Nat) (hk : L[k]? = some (aSl 29 9 (.slice sp n cap) n (l.flatMap scs))) {c : Nat} {x : SpsD} (hx : l[c]? = some x) :
    ∃ g, sp = some ⟨g, 0, none⟩ ∧ w.cell? ⟨g, c * 9, none⟩ = some (.int .u8 x.pr) ∧ w.cell? ⟨g, c * 9 + 1, none⟩ = some (.int .u8 x.fl) ∧ w.cell? ⟨g, c * 9 + 2, none⟩ = some (.int .u8 x.le) ∧ w.cell? ⟨g, c * 9 + 3, none⟩ = some (.int .i64 x.id) ∧ w.cell? ⟨g, c * 9 + 4, none⟩ = some (.int .i64 x.fb) ∧ w.cell? ⟨g, c * 9 + 5, none⟩ = some (.int .i64 x.pb) ∧ w.cell? ⟨g, c * 9 + 6, none⟩ = some (.int .i64 x.refs) ∧ w.cell? ⟨g, c * 9 + 7, none⟩ = some (.int .i64 x.w) ∧ w.cell? ⟨g, c * 9 + 8, none⟩ = some (.int .i64 x.h) := by
  obtain ⟨g, rfl, h0⟩ := h.sl_cell k hk (scs_at hx 0 (by decide))
  exact ⟨g, rfl, h0, h.sl_at k hk (scs_at hx 1 (by decide)), h.sl_at k hk (scs_at hx 2 (by decide)), h.sl_at k hk (scs_at hx 3 (by decide)), h.sl_at k hk (scs_at hx 4 (by decide)), h.sl_at k hk (scs_at hx 5 (by decide)), h.sl_at k hk (scs_at hx 6 (by decide)), h.sl_at k hk (scs_at hx 7 (by decide)), h.sl_at k hk (scs_at hx 8 (by decide))⟩
theorem Hp.p_row {l : List PpsD} (h : Hp W w L F) (k : Nat) (hk : L[k]? = some (aSl 26 10 (.slice sp n cap) n (l.flatMap pcs))) {c : Nat} {x : PpsD} (hx : l[c]? = some x) :
    ∃ g, sp = some ⟨g, 0, none⟩ ∧ w.cell? ⟨g, c * 10, none⟩ = some (.int .i64 x.id) ∧ w.cell? ⟨g, c * 10 + 1, none⟩ = some (.int .i64 x.sps) ∧ w.cell? ⟨g, c * 10 + 2, none⟩ = some (.bool x.cab) ∧ w.cell? ⟨g, c * 10 + 3, none⟩ = some (.int .i64 x.refs) ∧ w.cell? ⟨g, c * 10 + 4, none⟩ = some (.int .i64 x.refs1) ∧ w.cell? ⟨g, c * 10 + 5, none⟩ = some (.int .i64 x.qp) ∧ w.cell? ⟨g, c * 10 + 6, none⟩ = some (.int .i64 x.qs) ∧ w.cell? ⟨g, c * 10 + 7, none⟩ = some (.int .i64 x.ch) ∧ w.cell? ⟨g, c * 10 + 8, none⟩ = some (.bool x.deb) ∧ w.cell? ⟨g, c * 10 + 9, none⟩ = some (.bool x.intra) := by
  obtain ⟨g, rfl, h0⟩ := h.sl_cell k hk (pcs_at hx 0 (by decide))
  exact ⟨g, rfl, h0, h.sl_at k hk (pcs_at hx 1 (by decide)), h.sl_at k hk (pcs_at hx 2 (by decide)), h.sl_at k hk (pcs_at hx 3 (by decide)), h.sl_at k hk (pcs_at hx 4 (by decide)), h.sl_at k hk (pcs_at hx 5 (by decide)), h.sl_at k hk (pcs_at hx 6 (by decide)), h.sl_at k hk (pcs_at hx 7 (by decide)), h.sl_at k hk (pcs_at hx 8 (by decide)), h.sl_at k hk (pcs_at hx 9 (by decide))⟩
end

theorem getfin_fset {W w w' : World} {L : List AObj} {F : List (Nat × Obj)} (h : Hp W w L F) (j : Nat) {b : Nat} {o o' : Obj} (hj : F[j]? = some (b, o)) (h1' : OneBlk w w' b) (h2' : w'.heap[b]? = some o') : Hp W w' L (F.set j (b, o')) := by
  obtain ⟨bl, ow, ho, hF, hn, hL⟩ := h
  have hmem : (b, o) ∈ F := List.mem_of_getElem? hj
  obtain ⟨h1, h2, h3⟩ := hF _ hmem
  have hjl := (List.getElem?_eq_some_iff.1 hj).1
  refine ⟨⟨h1'.os.trans bl.os, h1'.tape.trans bl.tape, h1'.output.trans bl.output, by rw [h1'.size]; exact bl.size, fun c hc => (h1'.same c (by intro e; subst e; have := h1; omega)).trans (bl.block c hc)⟩, ow, fun c hc => by have := ho c hc; rw [h1'.size]; exact this, fun p hp => ?_, ?_, fun i x hx => ?_⟩
  · obtain ⟨i, hi⟩ := List.mem_iff_getElem?.1 hp
    by_cases e : i = j
    · subst e
      rw [List.getElem?_set_self hjl] at hi
      obtain rfl := Option.some.inj hi
      exact ⟨h1, h2, h2'⟩
    · rw [List.getElem?_set_ne (fun h => e h.symm)] at hi
      have hpm := List.mem_of_getElem? hi
      obtain ⟨g1, g2, g3⟩ := hF p hpm
      refine ⟨g1, g2, (h1'.same _ ?_).trans g3⟩
      intro eb
      have hi' := (List.getElem?_eq_some_iff.1 hi).1
      have e1 : (F.map (·.1))[i]'(by simpa using hi') = (F.map (·.1))[j]'(by simpa using hjl) := by
        simp only [List.getElem_map]
        rw [(List.getElem?_eq_some_iff.1 hi).2, (List.getElem?_eq_some_iff.1 hj).2]; exact eb
      exact e (List.getElem_inj hn |>.1 e1)
  · have : (F.set j (b, o')).map (·.1) = F.map (·.1) := by
      rw [List.map_set]
      apply List.ext_getElem?
      intro i
      rw [List.getElem?_set]
      split
      · rename_i e
        subst e
        rw [List.getElem?_map, hj]
        simp [hjl]
      · rfl
    rw [this]; exact hn
  · refine x.loc (fun c hc => h1'.same _ ?_) (fun _ h => h) (hL i x hx)
    intro e
    subst e
    rw [h2] at hc; simp at hc
theorem cell_congr {v w : World} {c : Nat} (h : v.heap[c]? = w.heap[c]?) (o : Nat) : v.cell? ⟨c, o, none⟩ = w.cell? ⟨c, o, none⟩ := by simp [World.cell?, h]
theorem Hp.sl_ne {W w : World} {L : List AObj} {F : List (Nat × Obj)} {e : TypeId} {size n cap g : Nat} {xs : List Value} (h : Hp W w L F) (k : Nat) (hk : L[k]? = some (aSl e size (.slice (some ⟨g, 0, none⟩) n cap) n xs)) {p : Nat × Obj} (hp : p ∈ F) : g ≠ p.1 := by
  obtain ⟨_, o, _, hF, _, hL⟩ := h
  have h1 := (hL k _ hk).2 g rfl
  have h2 := (hF p hp).2.1
  intro e
  rw [← e, h1] at h2
  cases h2
theorem Hp.ob_ne {W w : World} {L : List AObj} {F : List (Nat × Obj)} {b : Nat} {o : Obj} (h : Hp W w L F) (k : Nat) (hk : L[k]? = some (aOb b o)) {p : Nat × Obj} (hp : p ∈ F) : b ≠ p.1 := by
  obtain ⟨_, o, _, hF, _, hL⟩ := h
  have h1 := (hL k _ hk).1
  have h2 := (hF p hp).2.1
  intro e
  rw [← e, h1] at h2
  cases h2
theorem pSet_one (w : World) (b : Nat) (x : PpsD) : OneBlk w (pSet w b x) b := by
  unfold pSet
  exact ((((((((((OneBlk.refl w b).set _ _).set _ _).set _ _).set _ _).set _ _).set _ _).set _ _).set _ _).set _ _).set _ _
theorem sSet_one (w : World) (b : Nat) (x : SpsD) : OneBlk w (sSet w b x) b := by
  unfold sSet
  exact (((((((((OneBlk.refl w b).set _ _).set _ _).set _ _).set _ _).set _ _).set _ _).set _ _).set _ _).set _ _
theorem getfin_drew {W w : World} {L : List AObj} {F : List (Nat × Obj)} {X : Nat} {a : SpsD} {b : PpsD} (h : Hp W w L ((X + 1, sObj a) :: (X, pObj b) :: F)) (p : PpsD) (q : SpsD) (v : World) (hv : v = (sSet (pSet w X p) (X + 1) q).drew) :
    Hp W v L F ∧ (loadVar 26 ⟨X, 0, none⟩).run Try.prog v = .ok (pv p) v ∧ (loadVar 29 ⟨X + 1, 0, none⟩).run Try.prog v = .ok (sv q) v := by
  have b0 := h.blk (List.mem_cons_self ..)
  have b1 := h.blk (List.mem_cons_of_mem _ (List.mem_cons_self ..))
  have n1 : X + 1 ≠ X := by omega
  subst hv
  have h1 := getfin_fset h 1 rfl (pSet_one w X p) (pSet_blk b1 p)
  have c0 := ((pSet_one w X p).same _ n1).trans b0
  have h2 := getfin_fset h1 0 rfl (sSet_one _ (X + 1) q) (sSet_blk c0 q)
  have e1 := ((sSet_one (pSet w X p) (X + 1) q).same _ n1.symm).trans (pSet_blk b1 p)
  have e2 := sSet_blk c0 q
  generalize sSet (pSet w X p) (X + 1) q = v at h2 e1 e2 ⊢
  exact ⟨h2.drop.drop.drew, load_p (w := v.drew) e1, load_s (w := v.drew) e2⟩
theorem getfin {W w : World} {L : List AObj} {F : List (Nat × Obj)} {X : Nat} {a : SpsD} {b : PpsD} (h : Hp W w L ((X + 1, sObj a) :: (X, pObj b) :: F)) (p : PpsD) (q : SpsD) (v : World) (hv : v = sSet (pSet w X p) (X + 1) q ∨ v = pSet (sSet w (X + 1) q) X p) :
    Hp W v L F ∧ (loadVar 26 ⟨X, 0, none⟩).run Try.prog v = .ok (pv p) v ∧ (loadVar 29 ⟨X + 1, 0, none⟩).run Try.prog v = .ok (sv q) v := by
  have b0 := h.blk (List.mem_cons_self ..)
  have b1 := h.blk (List.mem_cons_of_mem _ (List.mem_cons_self ..))
  have n1 : X + 1 ≠ X := by omega
  rcases hv with rfl | rfl
  · have h1 := getfin_fset h 1 rfl (pSet_one w X p) (pSet_blk b1 p)
    have c0 := ((pSet_one w X p).same _ n1).trans b0
    have h2 := getfin_fset h1 0 rfl (sSet_one _ (X + 1) q) (sSet_blk c0 q)
    exact ⟨h2.drop.drop, load_p (((sSet_one _ (X + 1) q).same _ n1.symm).trans (pSet_blk b1 p)), load_s (sSet_blk c0 q)⟩
  · have h1 := getfin_fset h 0 rfl (sSet_one w (X + 1) q) (sSet_blk b0 q)
    have c1 := ((sSet_one w (X + 1) q).same _ n1.symm).trans b1
    have h2 := getfin_fset h1 1 rfl (pSet_one _ X p) (pSet_blk c1 p)
    exact ⟨h2.drop.drop, load_p (pSet_blk c1 p), load_s (((pSet_one _ X p).same _ n1).trans (sSet_blk b0 q))⟩

set_option maxHeartbeats 8000000 in
theorem rget_as {W w : World} {L : List AObj} {F : List (Nat × Obj)} {b : Nat} {vs vp : Value} {ls : List SpsD} {lp : List PpsD} (h : Hp W w L F) (k i j : Nat) (hk : L[k]? = some (aOb b (rsObj vs vp))) (hi : L[i]? = some (aSl 29 9 vs ls.length (ls.flatMap scs))) (hj : L[j]? = some (aSl 26 10 vp lp.length (lp.flatMap pcs))) (hn : ls.length ≤ 1000 ∧ lp.length ≤ 1000) (id : Int) {P : PpsD} {Q : SpsD} {E : Int} (hres : getR (lastBy SpsD.id ls) (lastBy PpsD.id lp) id = (P, Q, E)) :
    Calls Try.prog 31 #[.pointer (some ⟨b, 0, none⟩), .int .i64 id] w fun e w' => e = .returned (.tuple #[pv P, sv Q, .int .i64 E]) ∧ Hp W w' L F := by
  by_cases hr : id < 0 ∨ 32 ≤ id
  · have e : getR (lastBy SpsD.id ls) (lastBy PpsD.id lp) id = (p00, s00, 3) := getR_out _ _ _ hr
    rw [e] at hres
    simp only [Prod.mk.injEq] at hres
    obtain ⟨e1, e2, e3⟩ := hres
    subst e1 e2 e3
    have H := Lib.hid h
    clear h hk e
    have hfin : ∀ v1, v1 = (w.alloc (pObj p00)).alloc (sObj s00) → Hp W v1 L F ∧ (loadVar 26 ⟨w.heap.size, 0, none⟩).run Try.prog v1 = .ok (pv p00) v1 ∧ (loadVar 29 ⟨w.heap.size + 1, 0, none⟩).run Try.prog v1 = .ok (sv s00) v1 := by
      rintro v1 rfl
      exact ⟨(H.out.lost _).lost _, load_p (blk_old _ (blk0 w _)), load_s (blk1 w _ _)⟩
    have HF := Lib.hid hfin
    clear hfin
    by_cases h0 : id < 0
    · clear hr
      go_enter Try.func31, Try.ntmps31
      go_wp2_with (fail)
      obtain ⟨q1, q2, q3⟩ := HF.out _ rfl
      refine bodyPost_ret (results_get rfl rfl rfl q2 q3) rfl ⟨rfl, q1⟩
    · have h1 : (32 : Int) ≤ id := by omega
      clear hr
      go_enter Try.func31, Try.ntmps31
      go_wp2_with (fail)
      obtain ⟨q1, q2, q3⟩ := HF.out _ rfl
      refine bodyPost_ret (results_get rfl rfl rfl q2 q3) rfl ⟨rfl, q1⟩
  · have h0 : ¬ id < 0 := by omega
    have h1 : ¬ (32 : Int) ≤ id := by omega
    obtain ⟨sps, cs, rfl, -, -⟩ := h.sl_form i hi
    obtain ⟨spp, cp, rfl, -, -⟩ := h.sl_form j hj
    have hb := (h.alloc (pObj p00)).alloc (sObj s00)
    have hsz : (w.alloc (pObj p00)).heap.size = w.heap.size + 1 := by simp
    rw [hsz] at hb
    obtain ⟨X, hX⟩ : ∃ X, w.heap.size = X := ⟨_, rfl⟩
    rw [hX] at hb
    obtain ⟨ns, hns⟩ : ∃ n, ls.length = n := ⟨_, rfl⟩
    obtain ⟨np, hnp⟩ : ∃ n, lp.length = n := ⟨_, rfl⟩
    simp only [hns, hnp] at hn hk hi hj
    obtain ⟨k0, k1, -, -⟩ := cells_two (hb.ob k hk)
    have HK := Lib.hid hk
    have HI := Lib.hid hi
    have HJ := Lib.hid hj
    have HB := Lib.hid hb
    have HNS := Lib.hid hns
    have HNP := Lib.hid hnp
    have HID := Lib.hid (show 0 ≤ id ∧ id < 32 by omega)
    have HRES := Lib.hid hres
    have hns2 : ns ≤ 1000 := hn.1
    have hnp2 : np ≤ 1000 := hn.2
    simp only [pObj, sObj, p00, s00] at k0 k1
    clear h hk hi hj hb hsz hr hns hnp hn hres
    go_enter Try.func31, Try.ntmps31
    go_wp2_with (fail)
    try rw [hX]
    go_loopw [7] (fun i' wr => ∃ (z : Int) (c : Nat), i' = .int .i64 z ∧ z = (c : Int) - 1 ∧ c ≤ np ∧ Hid (lastBy PpsD.id lp id = lastBy PpsD.id (lp.take c) id) ∧ Hp W wr L ((X + 1, sObj s00) :: (X, pObj p00) :: F)) (fun i' _ => (intOf i' + 1).toNat)
    case atStart => exact ⟨_, np, rfl, rfl, Nat.le_refl _, Lib.hid (by rw [List.take_of_length_le (by rw [HNP.out]; exact Nat.le_refl _)]), HB.out⟩
    case round =>
      clear k0 k1 hX
      obtain ⟨z, c, rfl, hz, hc, HL, g⟩ := hrel
      obtain ⟨k0, k1, -, -⟩ := cells_two (g.ob k HK.out)
      cases c with
      | zero =>
        obtain rfl : z = -1 := by omega
        have hE : (P, Q, E) = (p00, s00, 7) := by rw [← HRES.out]; exact getR_none _ _ _ HID.out (by rw [HL.out]; rfl)
        simp only [Prod.mk.injEq] at hE
        obtain ⟨e1, e2, e3⟩ := hE
        subst e1 e2 e3
        clear hz
        have BX := Lib.hid g
        obtain ⟨x0, x1, x2, x3, x4, x5, x6, x7, x8, x9⟩ := p_cells (g.blk (List.mem_cons_of_mem _ (List.mem_cons_self ..)))
        obtain ⟨z0, z1, z2, z3, z4, z5, z6, z7, z8, z9⟩ := p_free (g.blk (List.mem_cons_of_mem _ (List.mem_cons_self ..)))
        obtain ⟨y0, y1, y2, y3, y4, y5, y6, y7, y8⟩ := s_cells (g.blk (List.mem_cons_self ..))
        obtain ⟨v0, v1, v2, v3, v4, v5, v6, v7, v8⟩ := s_free (g.blk (List.mem_cons_self ..))
        clear g
        go_wp2_with (fail)
        obtain ⟨q1, q2, q3⟩ := getfin BX.out p00 s00 _ (Or.inl rfl)
        refine bodyPost_ret (results_get rfl rfl rfl q2 q3) rfl ⟨rfl, q1⟩
      | succ c =>
        obtain rfl : z = (c : Int) := by omega
        obtain ⟨p, hp⟩ : ∃ p, lp[c]? = some p := ⟨lp[c]'(by rw [HNP.out]; omega), List.getElem?_eq_getElem _⟩
        have hstep := lastBy_take PpsD.id lp hp id
        have HP := Lib.hid hp
        obtain ⟨gp, rfl, r0, r1, r2, r3, r4, r5, r6, r7, r8, r9⟩ := g.p_row j HJ.out hp
        have hcb1 : (0 : Int) ≤ (c : Int) := by omega
        have hcb2 : (c : Int) < (np : Int) := by omega
        clear hp hz
        by_cases hid : p.id = id
        · have t1 : (p.id != id) = false := by simpa using hid
          rw [if_pos hid] at hstep
          have HG := Lib.hid (HL.out.trans hstep)
          have G := Lib.hid g
          clear hstep HL g hid
          go_wp2_with (fail)
          go_loopw [8] (fun d' wv => ∃ (z : Int) (d : Nat), d' = .int .i64 z ∧ z = (d : Int) - 1 ∧ d ≤ ns ∧ Hid (lastBy SpsD.id ls p.sps = lastBy SpsD.id (ls.take d) p.sps) ∧ Hp W wv L ((X + 1, sObj s00) :: (X, pObj p00) :: F)) (fun d' _ => (intOf d' + 1).toNat)
          case atStart => exact ⟨_, ns, rfl, rfl, Nat.le_refl _, Lib.hid (by rw [List.take_of_length_le (by rw [HNS.out]; exact Nat.le_refl _)]), G.out⟩
          case round =>
            clear k0 k1 r0 r1 r2 r3 r4 r5 r6 r7 r8 r9
            obtain ⟨z, d, rfl, hz, hd, HD, g⟩ := hrel
            obtain ⟨k0, k1, -, -⟩ := cells_two (g.ob k HK.out)
            cases d with
            | zero =>
              obtain rfl : z = -1 := by omega
              have hE : (P, Q, E) = (p00, s00, 7) := by rw [← HRES.out]; exact getR_half _ _ _ HID.out HG.out (by rw [HD.out]; rfl)
              simp only [Prod.mk.injEq] at hE
              obtain ⟨e1, e2, e3⟩ := hE
              subst e1 e2 e3
              clear hz
              have BX := Lib.hid g
              obtain ⟨x0, x1, x2, x3, x4, x5, x6, x7, x8, x9⟩ := p_cells (g.blk (List.mem_cons_of_mem _ (List.mem_cons_self ..)))
              obtain ⟨z0, z1, z2, z3, z4, z5, z6, z7, z8, z9⟩ := p_free (g.blk (List.mem_cons_of_mem _ (List.mem_cons_self ..)))
              obtain ⟨y0, y1, y2, y3, y4, y5, y6, y7, y8⟩ := s_cells (g.blk (List.mem_cons_self ..))
              obtain ⟨v0, v1, v2, v3, v4, v5, v6, v7, v8⟩ := s_free (g.blk (List.mem_cons_self ..))
              clear g
              go_wp2_with (fail)
              obtain ⟨q1, q2, q3⟩ := getfin BX.out p00 s00 _ (Or.inl rfl)
              refine bodyPost_ret (results_get rfl rfl rfl q2 q3) rfl ⟨rfl, q1⟩
            | succ d =>
              obtain rfl : z = (d : Int) := by omega
              obtain ⟨q, hq⟩ : ∃ q, ls[d]? = some q := ⟨ls[d]'(by rw [HNS.out]; omega), List.getElem?_eq_getElem _⟩
              have hstep := lastBy_take SpsD.id ls hq p.sps
              obtain ⟨gs, rfl, u0, u1, u2, u3, u4, u5, u6, u7, u8⟩ := g.s_row i HI.out hq
              obtain ⟨gp', egp, r0, r1, r2, r3, r4, r5, r6, r7, r8, r9⟩ := g.p_row j HJ.out HP.out
              obtain rfl : gp = gp' := by simpa using egp
              have hdb1 : (0 : Int) ≤ (d : Int) := by omega
              have hdb2 : (d : Int) < (ns : Int) := by omega
              have HQ := Lib.hid hq
              clear hq hz egp
              by_cases hqs : q.id = p.sps
              · have t2 : (q.id == p.sps) = true := by simpa using hqs
                rw [if_pos hqs] at hstep
                have hE : (P, Q, E) = (p, q, 0) := by rw [← HRES.out]; exact getR_both _ _ _ HID.out HG.out (HD.out.trans hstep)
                simp only [Prod.mk.injEq] at hE
                obtain ⟨e1, e2, e3⟩ := hE
                subst e1 e2 e3
                clear hstep hqs
                have BX := Lib.hid g
                obtain ⟨x0, x1, x2, x3, x4, x5, x6, x7, x8, x9⟩ := p_cells (g.blk (List.mem_cons_of_mem _ (List.mem_cons_self ..)))
                obtain ⟨z0, z1, z2, z3, z4, z5, z6, z7, z8, z9⟩ := p_free (g.blk (List.mem_cons_of_mem _ (List.mem_cons_self ..)))
                obtain ⟨y0, y1, y2, y3, y4, y5, y6, y7, y8⟩ := s_cells (g.blk (List.mem_cons_self ..))
                obtain ⟨v0, v1, v2, v3, v4, v5, v6, v7, v8⟩ := s_free (g.blk (List.mem_cons_self ..))
                clear g
                go_wp2_with (fail)
                go_quiet (fail)
                go_wp2_with (fail)
                have g3 := BX.out.drewN nq
                generalize wr.drewN nq = w3 at g3 ⊢
                clear k0 k1 r0 r1 r2 r3 r4 r5 r6 r7 r8 r9 u0 u1 u2 u3 u4 u5 u6 u7 u8 x0 x1 x2 x3 x4 x5 x6 x7 x8 x9 y0 y1 y2 y3 y4 y5 y6 y7 y8 z0 z1 z2 z3 z4 z5 z6 z7 z8 z9 v0 v1 v2 v3 v4 v5 v6 v7 v8
                obtain ⟨k0, k1, -, -⟩ := cells_two (g3.ob k HK.out)
                obtain ⟨gs', egs, u0, u1, u2, u3, u4, u5, u6, u7, u8⟩ := g3.s_row i HI.out HQ.out
                obtain rfl : gs = gs' := by simpa using egs
                obtain ⟨gp', egp, r0, r1, r2, r3, r4, r5, r6, r7, r8, r9⟩ := g3.p_row j HJ.out HP.out
                obtain rfl : gp = gp' := by simpa using egp
                clear egs egp BX
                have n1 : gs ≠ X + 1 := g3.sl_ne i HI.out (List.mem_cons_self ..)
                have n2 : gs ≠ X := g3.sl_ne i HI.out (List.mem_cons_of_mem _ (List.mem_cons_self ..))
                have n3 : gp ≠ X + 1 := g3.sl_ne j HJ.out (List.mem_cons_self ..)
                have n4 : gp ≠ X := g3.sl_ne j HJ.out (List.mem_cons_of_mem _ (List.mem_cons_self ..))
                have n5 : b ≠ X + 1 := g3.ob_ne k HK.out (List.mem_cons_self ..)
                have n6 : b ≠ X := g3.ob_ne k HK.out (List.mem_cons_of_mem _ (List.mem_cons_self ..))
                have BX := Lib.hid g3
                obtain ⟨x0, x1, x2, x3, x4, x5, x6, x7, x8, x9⟩ := p_cells (g3.blk (List.mem_cons_of_mem _ (List.mem_cons_self ..)))
                obtain ⟨z0, z1, z2, z3, z4, z5, z6, z7, z8, z9⟩ := p_free (g3.blk (List.mem_cons_of_mem _ (List.mem_cons_self ..)))
                obtain ⟨y0, y1, y2, y3, y4, y5, y6, y7, y8⟩ := s_cells (g3.blk (List.mem_cons_self ..))
                obtain ⟨v0, v1, v2, v3, v4, v5, v6, v7, v8⟩ := s_free (g3.blk (List.mem_cons_self ..))
                clear g3
                have KP : Hid (∀ w' : World, (∀ c', c' ≠ X → c' ≠ X + 1 → w'.heap[c']? = w3.heap[c']?) → w'.cell? ⟨b, 0, none⟩ = some (.slice (some ⟨gs, 0, none⟩) ns cs) ∧ w'.cell? ⟨b, 1, none⟩ = some (.slice (some ⟨gp, 0, none⟩) np cp) ∧ w'.cell? ⟨gp, c * 10, none⟩ = some (.int .i64 P.id) ∧ w'.cell? ⟨gp, c * 10 + 1, none⟩ = some (.int .i64 P.sps) ∧ w'.cell? ⟨gp, c * 10 + 2, none⟩ = some (.bool P.cab) ∧ w'.cell? ⟨gp, c * 10 + 3, none⟩ = some (.int .i64 P.refs) ∧ w'.cell? ⟨gp, c * 10 + 4, none⟩ = some (.int .i64 P.refs1) ∧ w'.cell? ⟨gp, c * 10 + 5, none⟩ = some (.int .i64 P.qp) ∧ w'.cell? ⟨gp, c * 10 + 6, none⟩ = some (.int .i64 P.qs) ∧ w'.cell? ⟨gp, c * 10 + 7, none⟩ = some (.int .i64 P.ch) ∧ w'.cell? ⟨gp, c * 10 + 8, none⟩ = some (.bool P.deb) ∧ w'.cell? ⟨gp, c * 10 + 9, none⟩ = some (.bool P.intra) ∧ w'.cell? ⟨gs, d * 9, none⟩ = some (.int .u8 Q.pr) ∧ w'.cell? ⟨gs, d * 9 + 1, none⟩ = some (.int .u8 Q.fl) ∧ w'.cell? ⟨gs, d * 9 + 2, none⟩ = some (.int .u8 Q.le) ∧ w'.cell? ⟨gs, d * 9 + 3, none⟩ = some (.int .i64 Q.id) ∧ w'.cell? ⟨gs, d * 9 + 4, none⟩ = some (.int .i64 Q.fb) ∧ w'.cell? ⟨gs, d * 9 + 5, none⟩ = some (.int .i64 Q.pb) ∧ w'.cell? ⟨gs, d * 9 + 6, none⟩ = some (.int .i64 Q.refs) ∧ w'.cell? ⟨gs, d * 9 + 7, none⟩ = some (.int .i64 Q.w) ∧ w'.cell? ⟨gs, d * 9 + 8, none⟩ = some (.int .i64 Q.h)) := Lib.hid fun v hv => by
                  have eb := cell_congr (hv b n6 n5)
                  have eg := cell_congr (hv gp n4 n3)
                  have es := cell_congr (hv gs n2 n1)
                  exact ⟨(eb _).trans k0, (eb _).trans k1, (eg _).trans r0, (eg _).trans r1, (eg _).trans r2, (eg _).trans r3, (eg _).trans r4, (eg _).trans r5, (eg _).trans r6, (eg _).trans r7, (eg _).trans r8, (eg _).trans r9, (es _).trans u0, (es _).trans u1, (es _).trans u2, (es _).trans u3, (es _).trans u4, (es _).trans u5, (es _).trans u6, (es _).trans u7, (es _).trans u8⟩
                go_region_held3 (fun w' => w'.cell? ⟨b, 0, none⟩ = some (.slice (some ⟨gs, 0, none⟩) ns cs) ∧ w'.cell? ⟨b, 1, none⟩ = some (.slice (some ⟨gp, 0, none⟩) np cp) ∧ w'.cell? ⟨gp, c * 10, none⟩ = some (.int .i64 P.id) ∧ w'.cell? ⟨gp, c * 10 + 1, none⟩ = some (.int .i64 P.sps) ∧ w'.cell? ⟨gp, c * 10 + 2, none⟩ = some (.bool P.cab) ∧ w'.cell? ⟨gp, c * 10 + 3, none⟩ = some (.int .i64 P.refs) ∧ w'.cell? ⟨gp, c * 10 + 4, none⟩ = some (.int .i64 P.refs1) ∧ w'.cell? ⟨gp, c * 10 + 5, none⟩ = some (.int .i64 P.qp) ∧ w'.cell? ⟨gp, c * 10 + 6, none⟩ = some (.int .i64 P.qs) ∧ w'.cell? ⟨gp, c * 10 + 7, none⟩ = some (.int .i64 P.ch) ∧ w'.cell? ⟨gp, c * 10 + 8, none⟩ = some (.bool P.deb) ∧ w'.cell? ⟨gp, c * 10 + 9, none⟩ = some (.bool P.intra) ∧ w'.cell? ⟨gs, d * 9, none⟩ = some (.int .u8 Q.pr) ∧ w'.cell? ⟨gs, d * 9 + 1, none⟩ = some (.int .u8 Q.fl) ∧ w'.cell? ⟨gs, d * 9 + 2, none⟩ = some (.int .u8 Q.le) ∧ w'.cell? ⟨gs, d * 9 + 3, none⟩ = some (.int .i64 Q.id) ∧ w'.cell? ⟨gs, d * 9 + 4, none⟩ = some (.int .i64 Q.fb) ∧ w'.cell? ⟨gs, d * 9 + 5, none⟩ = some (.int .i64 Q.pb) ∧ w'.cell? ⟨gs, d * 9 + 6, none⟩ = some (.int .i64 Q.refs) ∧ w'.cell? ⟨gs, d * 9 + 7, none⟩ = some (.int .i64 Q.w) ∧ w'.cell? ⟨gs, d * 9 + 8, none⟩ = some (.int .i64 Q.h)) (first | (refine KP.out _ (fun c' h1 h2 => ?_); (try simp only [World.drew]); (repeat (refine (Below.heap_setCell _ _ _ _ (by assumption)).trans ?_)); rfl) | go_keep) (fail)
                rename_i hheld
                clear hheld KP
                go_wp2_with (fail)
                obtain ⟨q1, q2, q3⟩ := getfin_drew BX.out P Q _ rfl
                exact bodyPost_ret (results_get rfl rfl rfl q2 q3) rfl ⟨rfl, q1⟩
              · have t2 : (q.id == p.sps) = false := by simpa using hqs
                rw [if_neg hqs] at hstep
                have HD2 := Lib.hid (HD.out.trans hstep)
                clear hstep hqs
                go_wp2_with (fail)
                go_quiet (fail)
                go_wp2_with (fail)
                go_roundw
                case rel => exact ⟨(d : Int) - 1, d, rfl, rfl, by omega, HD2, g.drewN _⟩
                case measure => simp [intOf]; try omega
        · have t1 : (p.id != id) = true := by simpa using hid
          rw [if_neg hid] at hstep
          have HL2 := Lib.hid (HL.out.trans hstep)
          clear hstep hid
          go_wp2_with (fail)
          go_roundw
          case rel => exact ⟨(c : Int) - 1, c, rfl, rfl, by omega, HL2, g⟩
          case measure => simp [intOf]; try omega

end Go.Proofs.Ytakpafmhdgnlmaa
