/- The program's store: Get, Copy. -/
import Derived.Test.YtakpafmhdgnlmaaSp
import Derived.Laws.ResultCell
namespace Go.Proofs.Ytakpafmhdgnlmaa
open Go.RowKit
set_option linter.unusedVariables false
set_option maxRecDepth 100000
set_option linter.unusedSimpArgs false

theorem load_s {w : World} {b : Nat} {x : SpsD} (h : w.heap[b]? = some (sObj x)) : (loadVar 29 ⟨b, 0, none⟩).run Try.prog w = .ok (sv x) w := by
  obtain ⟨s0, s1, s2, s3, s4, s5, s6, s7, s8⟩ := s_cells h
  simp [loadVar, go_sem, run_underlying Try.underlying29, s0, s1, s2, s3, s4, s5, s6, s7, s8, Result.andThen]
theorem load_p {w : World} {b : Nat} {x : PpsD} (h : w.heap[b]? = some (pObj x)) : (loadVar 26 ⟨b, 0, none⟩).run Try.prog w = .ok (pv x) w := by
  obtain ⟨s0, s1, s2, s3, s4, s5, s6, s7, s8, s9⟩ := p_cells h
  simp [loadVar, go_sem, run_underlying Try.underlying26, s0, s1, s2, s3, s4, s5, s6, s7, s8, s9, Result.andThen]
theorem results_get {fn : Func} {t u v : Tmp} {T U : TypeId} (h : fn.results = #[.cell t T, .cell u U, .tmp v]) {tmps : Array Value} {P : Program} {w : World} {a b : Addr} {x y : Value} (ha : tmps.getD t undef = .pointer (some a)) (hb : tmps.getD u undef = .pointer (some b)) (hx : (loadVar T a).run P w = .ok x w) (hy : (loadVar U b).run P w = .ok y w) :
    (results fn tmps).run P w = .ok (.tuple #[x, y, tmps.getD v undef]) w := by
  have ha' : tmps[t]?.getD undef = .pointer (some a) := by simpa using ha
  have hb' : tmps[u]?.getD undef = .pointer (some b) := by simpa using hb
  simp [results, h, ha', hb', asAddr, hx, hy]

def getR (f : Int → Option SpsD) (g : Int → Option PpsD) (id : Int) : PpsD × SpsD × Int :=
  if id < 0 ∨ 32 ≤ id then (p00, s00, 3) else match g id with
    | none => (p00, s00, 7)
    | some p => match f p.sps with
      | none => (p00, s00, 7)
      | some q => (p, q, 0)

theorem blk0 (w : World) (a : Obj) : (w.alloc a).heap[w.heap.size]? = some a := (MapKept.heap_alloc w a).1
theorem blk_old {w : World} (a : Obj) {c : Nat} {o : Obj} (h : w.heap[c]? = some o) : (w.alloc a).heap[c]? = some o := (Below.heap_alloc w a c (lt_of_block h)).trans h
theorem blk1 (w : World) (a b : Obj) : ((w.alloc a).alloc b).heap[w.heap.size + 1]? = some b := by
  have := blk0 (w.alloc a) b
  rwa [show (w.alloc a).heap.size = w.heap.size + 1 by simp] at this

set_option maxHeartbeats 4000000 in
theorem get_any {W w : World} {L : List AObj} {F : List (Nat × Obj)} {b m1 m2 : Nat} {f : Int → Option SpsD} {g : Int → Option PpsD} (h : Hp W w L F) (k : Nat) (hk : L[k]? = some (aSt b m1 m2 f g)) (id : Int) :
    Calls Try.prog 17 #[.pointer (some ⟨b, 0, none⟩), .int .i64 id] w fun e w' => e = .returned (.tuple #[pv (getR f g id).1, sv (getR f g id).2.1, .int .i64 (getR f g id).2.2]) ∧ Hp W w' L F := by
  by_cases hr : id < 0 ∨ 32 ≤ id
  · have e : getR f g id = (p00, s00, 3) := by unfold getR; rw [if_pos hr]
    rw [e]
    have H := Lib.hid h
    clear h hk e
    have hfin : ∀ v1, v1 = (w.alloc (pObj p00)).alloc (sObj s00) → Hp W v1 L F ∧ (loadVar 26 ⟨w.heap.size, 0, none⟩).run Try.prog v1 = .ok (pv p00) v1 ∧ (loadVar 29 ⟨w.heap.size + 1, 0, none⟩).run Try.prog v1 = .ok (sv s00) v1 := by
      rintro v1 rfl
      exact ⟨(H.out.lost _).lost _, load_p (blk_old _ (blk0 w _)), load_s (blk1 w _ _)⟩
    have HF := Lib.hid hfin
    clear hfin
    by_cases h0 : id < 0
    · clear hr
      go_enter Try.func17, Try.ntmps17
      go_wp2_with (fail)
      obtain ⟨q1, q2, q3⟩ := HF.out _ rfl
      refine bodyPost_ret (results_get rfl rfl rfl q2 q3) rfl ⟨rfl, q1⟩
    · have h1 : (32 : Int) ≤ id := by omega
      clear hr
      go_enter Try.func17, Try.ntmps17
      go_wp2_with (fail)
      obtain ⟨q1, q2, q3⟩ := HF.out _ rfl
      refine bodyPost_ret (results_get rfl rfl rfl q2 q3) rfl ⟨rfl, q1⟩
  · have h0 : ¬ id < 0 := by omega
    have h1 : ¬ (32 : Int) ≤ id := by omega
    have hb := (h.lost (pObj p00)).lost (sObj s00)
    obtain ⟨⟨c0, c1⟩, -, -⟩ := hb.st k hk
    obtain ⟨p, hp⟩ : ∃ p, (g id).getD p00 = p := ⟨_, rfl⟩
    cases hg : g id with
    | none =>
      have e : getR f g id = (p00, s00, 7) := by unfold getR; rw [if_neg hr, hg]
      rw [e]
      have e1 := hb.look_p k hk id (x := p00) (is := false) (by rw [hg]; rfl) (by rw [hg]; rfl)
      simp only [pObj, sObj, p00, s00] at c0 c1 e1
      have H := Lib.hid h
      have hfin : ∀ v1 o, v1 = ((w.alloc (pObj p00)).alloc (sObj s00)).alloc o → Hp W v1 L F ∧ (loadVar 26 ⟨w.heap.size, 0, none⟩).run Try.prog v1 = .ok (pv p00) v1 ∧ (loadVar 29 ⟨w.heap.size + 1, 0, none⟩).run Try.prog v1 = .ok (sv s00) v1 := by
        rintro v1 o rfl
        exact ⟨((H.out.lost _).lost _).lost _, load_p (blk_old _ (blk_old _ (blk0 w _))), load_s (blk_old _ (blk1 w _ _))⟩
      have HF := Lib.hid hfin
      clear hfin h hk hb e hp hg hr
      go_enter Try.func17, Try.ntmps17
      go_wp2_with (fail)
      obtain ⟨q1, q2, q3⟩ := HF.out _ _ rfl
      refine bodyPost_ret (results_get rfl rfl rfl q2 q3) rfl ⟨rfl, q1⟩
    | some p' =>
      obtain rfl : p' = p := by rw [hg] at hp; exact hp
      have e1 := hb.look_p k hk id (x := p') (is := true) (by rw [hg]; rfl) (by rw [hg]; rfl)
      have hb3 := hb.lost (pObj p')
      obtain ⟨⟨a0, a1⟩, -, -⟩ := hb3.st k hk
      cases hf : f p'.sps with
      | none =>
        have e : getR f g id = (p00, s00, 7) := by unfold getR; rw [if_neg hr, hg]; simp only; rw [hf]
        rw [e]
        have e2 := hb3.drew.look_s k hk p'.sps (x := s00) (is := false) (by rw [hf]; rfl) (by rw [hf]; rfl)
        have hb4 := hb3.lost (sObj s00)
        obtain ⟨⟨d0, d1⟩, -, -⟩ := hb4.st k hk
        have e3 := hb4.drew.look_s k hk p'.sps (x := s00) (is := false) (by rw [hf]; rfl) (by rw [hf]; rfl)
        simp only [pObj, sObj, p00, s00] at c0 c1 e1 e2 e3 a0 a1 d0 d1
        have H := Lib.hid h
        have hfin : ∀ v1 o o' n, v1 = ((((w.alloc (pObj p00)).alloc (sObj s00)).alloc o).alloc o').drewN n → Hp W v1 L F ∧ (loadVar 26 ⟨w.heap.size, 0, none⟩).run Try.prog v1 = .ok (pv p00) v1 ∧ (loadVar 29 ⟨w.heap.size + 1, 0, none⟩).run Try.prog v1 = .ok (sv s00) v1 := by
          rintro v1 o o' n rfl
          exact ⟨((((H.out.lost _).lost _).lost _).lost _).drewN n, load_p (blk_old _ (blk_old _ (blk_old _ (blk0 w _)))), load_s (blk_old _ (blk_old _ (blk1 w _ _)))⟩
        have HF := Lib.hid hfin
        clear hfin h hk hb hb3 hb4 e hp hg hr hf
        go_enter Try.func17, Try.ntmps17
        go_wp2_with (fail)
        go_region
        all_goals
          go_wp2_with (fail)
          obtain ⟨q1, q2, q3⟩ := HF.out _ _ _ 1 rfl
          refine bodyPost_ret (results_get rfl rfl rfl q2 q3) rfl ⟨rfl, q1⟩
      | some q =>
        have e : getR f g id = (p', q, 0) := by unfold getR; rw [if_neg hr, hg]; simp only; rw [hf]
        rw [e]
        have e2 := hb3.drew.look_s k hk p'.sps (x := q) (is := true) (by rw [hf]; rfl) (by rw [hf]; rfl)
        have hb4 := hb3.lost (sObj s00)
        obtain ⟨⟨d0, d1⟩, -, -⟩ := hb4.st k hk
        have e3 := hb4.drew.look_s k hk p'.sps (x := q) (is := true) (by rw [hf]; rfl) (by rw [hf]; rfl)
        simp only [pObj, sObj, p00, s00] at c0 c1 e1 e2 e3 a0 a1 d0 d1
        have H := Lib.hid h
        have hfin : ∀ v1 o o' n, v1 = ((((w.alloc (pObj p')).alloc (sObj q)).alloc o).alloc o').drewN n → Hp W v1 L F ∧ (loadVar 26 ⟨w.heap.size, 0, none⟩).run Try.prog v1 = .ok (pv p') v1 ∧ (loadVar 29 ⟨w.heap.size + 1, 0, none⟩).run Try.prog v1 = .ok (sv q) v1 := by
          rintro v1 o o' n rfl
          exact ⟨((((H.out.lost _).lost _).lost _).lost _).drewN n, load_p (blk_old _ (blk_old _ (blk_old _ (blk0 w _)))), load_s (blk_old _ (blk_old _ (blk1 w _ _)))⟩
        have HF := Lib.hid hfin
        clear hfin h hk hb hb3 hb4 e hp hg hr hf
        go_enter Try.func17, Try.ntmps17
        go_wp2_with (fail)
        go_region
        all_goals
          go_wp2_with (fail)
        all_goals
          go_region
        all_goals
          go_wp2_with (fail)
          obtain ⟨q1, q2, q3⟩ := HF.out _ _ _ 2 rfl
          refine bodyPost_ret (results_get rfl rfl rfl q2 q3) rfl ⟨rfl, q1⟩


end Go.Proofs.Ytakpafmhdgnlmaa
